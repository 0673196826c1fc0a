/- Contracts: Overbooked, and whether bookings fit. -/
import Derived.Test.YtflbffhahoblfaaGreatDoorBgE
import Derived.Test.YtflbffhahoblfaaGreatDoorBgF
import Derived.Test.YtflbffhahoblfaaGreatDoorCpL
noncomputable section
namespace Go.Proofs.YtflbffhahoblfaaGreatDoor
open Go Go.Den
set_option maxRecDepth 100000
def fitB (t : List Tb) (l : List Bk) : Bool := decide ((ovV t l).1 = strB [])
set_option maxHeartbeats 4000000 in
theorem fit_c {H : AHeap} {q r : Option Addr} {c d : Nat} {t : List Tb} {l : List Bk} (hs : SlAt H 2 tb q t) (hn : t.length < 1000000) (hr : SlAt H 4 bk r l) (hq : OldS H r) (hm : l.length < 1000000) :
    Ret Tryz.prog 39 [.slice q t.length c, .slice r l.length d] H (.bool (fitB t l)) H := by
  refine fn_start Tryz.func39 rfl rfl rfl fun hc => ?_
  apply ct_seq
  apply ct_region
  apply seq_plain; exact do_assign rfl; exact rfl
  apply seq_nil
  apply ct_seq
  apply ct_region
  iterate 2 (apply seq_plain; exact do_move rfl; exact rfl)
  apply seq_call (ht := rfl); exact overbooked_c (hs.ext (ext_Ext hc)) hn (hr.ext (ext_Ext hc)) hq.ext hm; exact rfl
  apply seq_plain; exact do_move rfl; exact rfl
  iterate 2 (apply seq_plain; exact do_extract rfl rfl; exact rfl)
  iterate 2 (apply seq_plain; exact do_assign rfl; exact rfl)
  apply seq_nil
  apply ct_seq
  apply ct_region
  apply seq_plain; exact do_move rfl; exact rfl
  apply seq_plain; exact do_binStr rfl rfl rfl; exact rfl
  apply seq_plain; exact do_assign rfl; exact rfl
  apply seq_nil
  apply ct_ret
  refine fin_flat hc rfl rfl ⟨?_, rfl⟩
  show Value.bool (byteL _ _) = _
  rw [bytes_eq]; rfl
end Go.Proofs.YtflbffhahoblfaaGreatDoor
/- Plain law: the greatest depth is at a beginning. -/
noncomputable section
namespace Go.Proofs.YtflbffhahoblfaaGreatDoor
open Go Go.Den Go.Sort
theorem max_at : ∀ {l : List Int}, l ≠ [] → ∃ f ∈ l, ∀ g ∈ l, g ≤ f
  | [], h => absurd rfl h
  | [a], _ => ⟨a, by simp, by simp⟩
  | a :: b :: l, _ => by
    obtain ⟨f, hf, hm⟩ := max_at (l := b :: l) (by simp)
    by_cases h : f ≤ a
    · exact ⟨a, by simp, fun g hg => by
        rcases List.mem_cons.1 hg with rfl | hg
        · exact Int.le_refl _
        · exact Int.le_trans (hm g hg) h⟩
    · exact ⟨f, List.mem_cons_of_mem _ hf, fun g hg => by
        rcases List.mem_cons.1 hg with rfl | hg
        · omega
        · exact hm g hg⟩
theorem isAt_iff {k : ByteArray} {q : Int} {x : Bk} : isAt k q x = true ↔ x.kind = k ∧ x.frm ≤ q ∧ q < x.to := by
  unfold isAt
  simp only [Bool.and_eq_true, decide_eq_true_eq]
theorem mem_froms {l : List Bk} {k : ByteArray} {f : Int} : f ∈ froms l k ↔ ∃ x ∈ l, x.kind = k ∧ x.frm = f := by
  unfold froms
  simp only [List.mem_map, List.mem_filter, decide_eq_true_eq, and_assoc]
theorem mem_begL {l : List Bk} {k : ByteArray} {f : Int} : f ∈ begL l k ↔ f ∈ froms l k := by
  unfold begL
  rw [compact_mem, (srtI_perm _).mem_iff]
theorem begL_srt (l : List Bk) (k : ByteArray) : (begL l k).Pairwise (· < ·) := by
  have := compact_srt (R := fun a b : Int => a ≤ b) (fun a b h1 h2 => by omega) (fun a => by omega) (srtI_srt (froms l k))
  exact this.imp fun h => by omega
theorem depth_key {l : List Bk} {k : ByteArray} {q : Int} (h : 0 < cntD l k q) : ∃ f ∈ froms l k, f ≤ q ∧ cntD l k q ≤ cntD l k f := by
  unfold cntD at h
  obtain ⟨x, hx, hp⟩ := List.countP_pos_iff.1 h
  obtain ⟨f, hf, hm⟩ := max_at (l := (l.filter (isAt k q)).map (·.frm)) (by
    intro e
    have : x.frm ∈ (l.filter (isAt k q)).map (·.frm) := List.mem_map.2 ⟨x, List.mem_filter.2 ⟨hx, hp⟩, rfl⟩
    rw [e] at this; cases this)
  obtain ⟨y, hy, rfl⟩ := List.mem_map.1 hf
  obtain ⟨hy, hyp⟩ := List.mem_filter.1 hy
  obtain ⟨y1, y2, y3⟩ := isAt_iff.1 hyp
  refine ⟨y.frm, mem_froms.2 ⟨y, hy, y1, rfl⟩, y2, ?_⟩
  unfold cntD
  refine List.countP_mono_left fun z hz hzp => ?_
  obtain ⟨z1, z2, z3⟩ := isAt_iff.1 hzp
  have := hm z.frm (List.mem_map.2 ⟨z, List.mem_filter.2 ⟨hz, hzp⟩, rfl⟩)
  exact isAt_iff.2 ⟨z1, this, by omega⟩
structure Best (S : Int → Int) (C : Int → Prop) (a : Int × Int) : Prop where
  zero : a.1 = 0 → a = (0, 0)
  nonneg : 0 ≤ a.1
  at_ : a.1 ≠ 0 → C a.2 ∧ S a.2 = a.1
  ge : ∀ q, C q → S q ≤ a.1
  first : ∀ q, C q → S q = a.1 → a.1 ≠ 0 → a.2 ≤ q
theorem Best.uniq {S : Int → Int} {C C' : Int → Prop} {a b : Int × Int} (ha : Best S C a) (hb : Best S C' b) (h1 : ∀ q, C q → C' q) (h2 : ∀ q, C' q → 0 < S q → ∃ f, C f ∧ f ≤ q ∧ S q ≤ S f) : a = b := by
  have e1 : a.1 ≤ b.1 := by
    by_cases h : a.1 = 0
    · rw [h]; exact hb.nonneg
    · obtain ⟨c1, c2⟩ := ha.at_ h
      rw [← c2]; exact hb.ge _ (h1 _ c1)
  have e2 : b.1 ≤ a.1 := by
    by_cases h : b.1 = 0
    · rw [h]; exact ha.nonneg
    · obtain ⟨c1, c2⟩ := hb.at_ h
      have := hb.nonneg
      obtain ⟨f, f1, f2, f3⟩ := h2 _ c1 (by omega)
      have := ha.ge f f1
      omega
  by_cases h : a.1 = 0
  · rw [ha.zero h, hb.zero (by omega)]
  · obtain ⟨c1, c2⟩ := ha.at_ h
    obtain ⟨d1, d2⟩ := hb.at_ (by omega)
    have f1 := hb.first _ (h1 _ c1) (by omega) (by omega)
    have := ha.nonneg
    obtain ⟨f, g1, g2, g3⟩ := h2 _ d1 (by omega)
    have g4 := ha.ge f g1
    have g5 := ha.first f g1 (by omega) h
    exact Prod.ext (by omega) (by omega)
theorem Best.congr {S : Int → Int} {C C' : Int → Prop} {a : Int × Int} (h : Best S C a) (e : ∀ z, C z ↔ C' z) : Best S C' a :=
  ⟨h.zero, h.nonneg, fun h0 => ⟨(e _).1 (h.at_ h0).1, (h.at_ h0).2⟩, fun q hq => h.ge q ((e _).2 hq), fun q hq => h.first q ((e _).2 hq)⟩
theorem Best.nil {S : Int → Int} : Best S (fun _ => False) (0, 0) := ⟨fun _ => rfl, by simp, fun h => absurd rfl h, fun _ h => h.elim, fun _ h => h.elim⟩
theorem Best.new {S : Int → Int} {C : Int → Prop} {a : Int × Int} {q : Int} (hb : Best S C a) (h : S q > a.1 ∨ ((S q = a.1 ∧ S q > 0) ∧ q < a.2)) : Best S (fun z => C z ∨ z = q) (S q, q) := by
  have h0 := hb.nonneg
  refine ⟨fun e => ?_, by simp only; omega, fun _ => ⟨.inr rfl, rfl⟩, fun z hz => ?_, fun z hz e _ => ?_⟩
  · simp only at e; omega
  · rcases hz with hz | rfl
    · have := hb.ge z hz; simp only; omega
    · exact Int.le_refl _
  · simp only at e ⊢
    rcases hz with hz | rfl
    · have h1 := hb.ge z hz
      have h2 := hb.first z hz (by omega) (by omega)
      omega
    · exact Int.le_refl _
theorem Best.old {S : Int → Int} {C : Int → Prop} {a : Int × Int} {q : Int} (hb : Best S C a) (h : ¬ (S q > a.1 ∨ ((S q = a.1 ∧ S q > 0) ∧ q < a.2))) : Best S (fun z => C z ∨ z = q) a := by
  have h0 := hb.nonneg
  refine ⟨hb.zero, h0, fun e => ⟨.inl (hb.at_ e).1, (hb.at_ e).2⟩, fun z hz => ?_, fun z hz e e0 => ?_⟩
  · rcases hz with hz | rfl
    · exact hb.ge z hz
    · omega
  · rcases hz with hz | rfl
    · exact hb.first z hz e e0
    · omega
end Go.Proofs.YtflbffhahoblfaaGreatDoor
