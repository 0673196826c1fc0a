/- Plain law: openings. -/
import Derived.Test.YtflbffhahoblfaaGreatDoorBkL
import Derived.Test.YtflbffhahoblfaaGreatDoorHkC
import Derived.Test.YtflbffhahoblfaaGreatDoorShB
import Derived.Test.YtflbffhahoblfaaGreatDoorPrA
import Derived.Test.YtflbffhahoblfaaGreatDoorDeL
import Derived.Test.YtflbffhahoblfaaGreatDoorHkA
noncomputable section
namespace Go.Proofs.YtflbffhahoblfaaGreatDoor
open Go Go.Den
abbrev Spn := Int × Int
def OpCov (o : List Spn) (q : Int) : Prop := ∃ s ∈ o, s.1 ≤ q ∧ q < s.2
structure OpAsc (o : List Spn) : Prop where
  pos : ∀ s ∈ o, s.1 < s.2
  gap : o.Pairwise fun a b => a.2 < b.1
theorem OpAsc.tail {s : Spn} {o : List Spn} (h : OpAsc (s :: o)) : OpAsc o ∧ ∀ u ∈ o, s.2 < u.1 ∧ u.1 < u.2 :=
  have g := List.pairwise_cons.1 h.gap
  ⟨⟨fun u hu => h.pos u (List.mem_cons_of_mem _ hu), g.2⟩, fun u hu => ⟨g.1 u hu, h.pos u (List.mem_cons_of_mem _ hu)⟩⟩
theorem cov_uniq : ∀ {a b : List Spn}, OpAsc a → OpAsc b → (∀ q, OpCov a q ↔ OpCov b q) → a = b
  | [], [], _, _, _ => rfl
  | [], t :: b, _, hb, h => by
    obtain ⟨s, hs, _⟩ := (h t.1).2 ⟨t, by simp, Int.le_refl _, hb.pos t (by simp)⟩
    cases hs
  | s :: a, [], ha, _, h => by
    obtain ⟨t, ht, _⟩ := (h s.1).1 ⟨s, by simp, Int.le_refl _, ha.pos s (by simp)⟩
    cases ht
  | s :: a, t :: b, ha, hb, h => by
    obtain ⟨ha', la⟩ := ha.tail
    obtain ⟨hb', lb⟩ := hb.tail
    have pa := ha.pos s (by simp)
    have pb := hb.pos t (by simp)
    have e1 : t.1 ≤ s.1 := by
      obtain ⟨u, hu, h1, h2⟩ := (h s.1).1 ⟨s, by simp, Int.le_refl _, pa⟩
      rcases List.mem_cons.1 hu with rfl | hu
      · exact h1
      · have := lb u hu; omega
    have e2 : s.1 ≤ t.1 := by
      obtain ⟨u, hu, h1, h2⟩ := (h t.1).2 ⟨t, by simp, Int.le_refl _, pb⟩
      rcases List.mem_cons.1 hu with rfl | hu
      · exact h1
      · have := la u hu; omega
    have e3 : ¬ s.2 < t.2 := fun hlt => by
      obtain ⟨u, hu, h1, h2⟩ := (h s.2).2 ⟨t, by simp, by omega, hlt⟩
      rcases List.mem_cons.1 hu with rfl | hu
      · omega
      · have := la u hu; omega
    have e4 : ¬ t.2 < s.2 := fun hlt => by
      obtain ⟨u, hu, h1, h2⟩ := (h t.2).1 ⟨s, by simp, by omega, hlt⟩
      rcases List.mem_cons.1 hu with rfl | hu
      · omega
      · have := lb u hu; omega
    have est : s = t := Prod.ext (by omega) (by omega)
    subst est
    rw [cov_uniq ha' hb' fun q => ⟨fun ⟨u, hu, h1, h2⟩ => ?_, fun ⟨u, hu, h1, h2⟩ => ?_⟩]
    · obtain ⟨v, hv, h3, h4⟩ := (h q).1 ⟨u, List.mem_cons_of_mem _ hu, h1, h2⟩
      rcases List.mem_cons.1 hv with rfl | hv
      · have := la u hu; omega
      · exact ⟨v, hv, h3, h4⟩
    · obtain ⟨v, hv, h3, h4⟩ := (h q).2 ⟨u, List.mem_cons_of_mem _ hu, h1, h2⟩
      rcases List.mem_cons.1 hv with rfl | hv
      · have := lb u hu; omega
      · exact ⟨v, hv, h3, h4⟩
theorem cov_app {o p : List Spn} {q : Int} : OpCov (o ++ p) q ↔ OpCov o q ∨ OpCov p q := by
  unfold OpCov
  simp only [List.mem_append, or_and_right, exists_or]
theorem cov_one {s : Spn} {q : Int} : OpCov [s] q ↔ s.1 ≤ q ∧ q < s.2 := by
  unfold OpCov; simp
structure OpI (f : Int → Bool) (a : Int) (o : List Spn) : Prop where
  asc : OpAsc o
  lo : ∀ s ∈ o, 0 ≤ s.1 ∧ s.2 ≤ a
  cov : ∀ q, OpCov o q ↔ 0 ≤ q ∧ q < a ∧ f q = true
section
variable {f : Int → Bool} {a b : Int} {o : List Spn}
theorem OpI.nil : OpI f 0 [] := ⟨⟨by simp, .nil⟩, by simp, fun q => ⟨fun ⟨s, hs, _⟩ => (by cases hs), fun h => (by omega)⟩⟩
theorem OpI.uniq {o' : List Spn} (h : OpI f a o) (h' : OpI f a o') : o = o' := cov_uniq h.asc h'.asc fun q => (h.cov q).trans (h'.cov q).symm
theorem OpI.skip (h : OpI f a o) (hlt : a < b) (hf : ∀ q, a ≤ q → q < b → f q = false) : OpI f b o :=
  ⟨h.asc, fun s hs => ⟨(h.lo s hs).1, by have := (h.lo s hs).2; omega⟩, fun q => by
    rw [h.cov]
    constructor
    · rintro ⟨h1, h2, h3⟩; exact ⟨h1, by omega, h3⟩
    · rintro ⟨h1, h2, h3⟩
      refine ⟨h1, ?_, h3⟩
      by_cases e : q < a
      · exact e
      · rw [hf q (by omega) h2] at h3; cases h3⟩
theorem OpI.new (h : OpI f a o) (h0 : 0 ≤ a) (hlt : a < b) (hf : ∀ q, a ≤ q → q < b → f q = true) (hl : ∀ p s, o = p ++ [s] → s.2 ≠ a) : OpI f b (o ++ [(a, b)]) := by
  have hx : ∀ x ∈ o, x.2 < a := by
    rcases List.eq_nil_or_concat o with rfl | ⟨p, s, e⟩
    · simp
    · rw [List.concat_eq_append] at e
      have h1 := hl p s e
      have h2 := h.lo s (by rw [e]; simp)
      have h3 := h.asc.pos s (by rw [e]; simp)
      have h4 := h.asc.gap
      rw [e] at h4
      intro x hx
      rw [e] at hx
      rcases List.mem_append.1 hx with hx | hx
      · have := (List.pairwise_append.1 h4).2.2 x hx s (by simp)
        omega
      · rw [List.mem_singleton.1 hx]; omega
  refine ⟨⟨fun s hs => ?_, List.pairwise_append.2 ⟨h.asc.gap, by simp, fun x hx' y hy => ?_⟩⟩, fun s hs => ?_, fun q => ?_⟩
  · rcases List.mem_append.1 hs with hs | hs
    · exact h.asc.pos s hs
    · rw [List.mem_singleton.1 hs]; exact hlt
  · rw [List.mem_singleton.1 hy]; exact hx x hx'
  · rcases List.mem_append.1 hs with hs | hs
    · have := h.lo s hs; exact ⟨this.1, by omega⟩
    · rw [List.mem_singleton.1 hs]; exact ⟨h0, Int.le_refl _⟩
  · rw [cov_app, h.cov, cov_one]
    constructor
    · rintro (⟨h1, h2, h3⟩ | ⟨h1, h2⟩)
      · exact ⟨h1, by omega, h3⟩
      · exact ⟨by simp only at h1; omega, h2, hf q h1 h2⟩
    · rintro ⟨h1, h2, h3⟩
      by_cases e : q < a
      · exact .inl ⟨h1, e, h3⟩
      · exact .inr ⟨by simp only; omega, h2⟩
theorem OpI.join {s : Spn} (h : OpI f a (o ++ [s])) (hlt : a < b) (hf : ∀ q, a ≤ q → q < b → f q = true) (he : s.2 = a) : OpI f b (o ++ [(s.1, b)]) := by
  have hs := h.lo s (by simp)
  have hp := h.asc.pos s (by simp)
  have hg := List.pairwise_append.1 h.asc.gap
  refine ⟨⟨fun x hx => ?_, List.pairwise_append.2 ⟨hg.1, by simp, fun x hx' y hy => ?_⟩⟩, fun x hx => ?_, fun q => ?_⟩
  · rcases List.mem_append.1 hx with hx | hx
    · exact h.asc.pos x (List.mem_append_left _ hx)
    · rw [List.mem_singleton.1 hx]; simp only; omega
  · rw [List.mem_singleton.1 hy]; exact hg.2.2 x hx' s (by simp)
  · rcases List.mem_append.1 hx with hx | hx
    · have := h.lo x (List.mem_append_left _ hx); exact ⟨this.1, by omega⟩
    · rw [List.mem_singleton.1 hx]; exact ⟨hs.1, Int.le_refl _⟩
  · have hc := h.cov q
    rw [cov_app, cov_one] at hc
    rw [cov_app, cov_one]
    constructor
    · rintro (h1 | ⟨h1, h2⟩)
      · obtain ⟨h2, h3, h4⟩ := hc.1 (.inl h1)
        exact ⟨h2, by omega, h4⟩
      · simp only at h1 h2
        by_cases e : q < a
        · obtain ⟨h3, h4, h5⟩ := hc.1 (.inr ⟨h1, by omega⟩)
          exact ⟨h3, h2, h5⟩
        · exact ⟨by omega, h2, hf q (by omega) h2⟩
    · rintro ⟨h1, h2, h3⟩
      by_cases e : q < a
      · rcases hc.2 ⟨h1, e, h3⟩ with h4 | ⟨h4, h5⟩
        · exact .inl h4
        · exact .inr ⟨h4, by simp only; omega⟩
      · exact .inr ⟨by simp only; omega, h2⟩
end
def opF (t : List Tb) (l : List Bk) (k : ByteArray) (q : Int) : Bool := decide ((cntD l k q : Int) < (cntK t k : Int))
/-! ### the reference's next quarter -/
/-! ### the program's quarters -/
def endF (l : List Bk) (k : ByteArray) : List Int := (l.filter fun x => decide (x.kind = k)).flatMap fun x => [x.frm, x.to]
def endL (l : List Bk) (k : ByteArray) : List Int := Lib.compact (srtI ([0, 99999] ++ endF l k))
end Go.Proofs.YtflbffhahoblfaaGreatDoor
/- Contracts: openings, as the reference has them. -/
noncomputable section
namespace Go.Den
section
variable {P : Program} {rd : Option Nat} {nt : Nat} {ops : Array Oper} {l : EL} {ds : List Nat} {i : Nat} {ty : TypeId} {pos : String} {af : Array Edge} {H : AHeap} {lo : Nat} {L : List (Option ABlk)} {α : Type} {E : α → EL} {hh : α → AHeap} {J : α → Prop}
end
theorem LstI.set_ {α : Type} {H : AHeap} {K m : Nat} {L : List (Option ABlk)} {f : α → List Value} {l l' : List α} {v : Value} (h : LstI H L m f K v l) (hl : l'.length = l.length) : LstI H (L.set K (some (.cells (l'.flatMap f) m true false))) m f K v l' := by
  rcases h.out with ⟨rfl, rfl⟩ | ⟨hne, rfl, hL⟩
  · have : l' = [] := List.length_eq_zero_iff.1 hl
    subst this; exact .nil
  · refine ⟨.inr ⟨fun e => hne ?_, by rw [hl], List.getElem?_set_self (List.getElem?_eq_some_iff.1 hL).1⟩⟩
    rw [e] at hl
    exact List.length_eq_zero_iff.1 hl.symm
end Go.Den
namespace Go.Proofs.YtflbffhahoblfaaGreatDoor
open Go Go.Den
set_option maxRecDepth 100000
theorem asc_len {a : Int} : ∀ {o : List Spn} {lo : Int}, OpAsc o → (∀ s ∈ o, lo ≤ s.1 ∧ s.2 ≤ a) → lo ≤ a → (o.length : Int) ≤ a - lo
  | [], _, _, _, h => by simp; omega
  | s :: o, lo, h, hs, hl => by
    obtain ⟨h', ht⟩ := h.tail
    have h1 := hs s (by simp)
    have h2 := h.pos s (by simp)
    have := asc_len (lo := s.2) h' (fun u hu => ⟨by have := ht u hu; omega, (hs u (List.mem_cons_of_mem _ hu)).2⟩) h1.2
    rw [List.length_cons]
    omega
theorem OpI.len {f : Int → Bool} {a : Int} {o : List Spn} (h : OpI f a o) (h0 : 0 ≤ a) : (o.length : Int) ≤ a := by
  have := asc_len (lo := 0) h.asc (fun s hs => h.lo s hs) h0
  omega
end Go.Proofs.YtflbffhahoblfaaGreatDoor
/- Contracts: openings, as the program has them. -/
noncomputable section
namespace Go.Den
section
variable {P : Program} {l : EL} {h : AHeap}
end
structure LstX {α : Type} (H : AHeap) (L : List (Option ABlk)) (m : Nat) (f : α → List Value) (K : Nat) (l : List α) : Prop where
  out : ∃ s, L[K]? = some (some (.cells (l.flatMap f) m s false))
section
variable {α : Type} {H : AHeap} {lo K m : Nat} {L L' : List (Option ABlk)} {f : α → List Value} {l : List α}
theorem LstX.app (h : LstX H L m f K l) (M : List (Option ABlk)) : LstX H (L ++ M) m f K l := by
  obtain ⟨s, hs⟩ := h.out
  exact ⟨s, getApp hs⟩
theorem LstX.lt (h : LstX H L m f K l) : K < L.length := by
  obtain ⟨s, hs⟩ := h.out
  exact (List.getElem?_eq_some_iff.1 hs).1
end
section
variable {P : Program} {rd : Option Nat} {nt : Nat} {ops : Array Oper} {l : EL} {ds : List Nat} {K : St → Prop} {i : Nat} {r : List Oper} {o : Oper} {ty : TypeId} {pos : String} {af : Array Edge} {H : AHeap} {lo : Nat} {L : List (Option ABlk)} {α : Type} {f : α → List Value}
end
end Go.Den
namespace Go.Proofs.YtflbffhahoblfaaGreatDoor
open Go Go.Den
set_option maxRecDepth 100000
def opnE (t : List Tb) (l : List Bk) (k : ByteArray) : Int := firstL [bothE t l, nameE [k], whenL ((cntK t k : Int) == 0) 10]
def opnX (t : List Tb) (l : List Bk) (k : ByteArray) : Int := if opnE t l k ≠ 0 then opnE t l k else if fitB t l = true then 0 else 23
end Go.Proofs.YtflbffhahoblfaaGreatDoor
/- Contracts: tables and bookings, as the reference and the laws look at them. -/
noncomputable section
namespace Go.Proofs.YtflbffhahoblfaaGreatDoor
open Go Go.Den
set_option maxRecDepth 100000
set_option maxHeartbeats 4000000 in
theorem own_c {H : AHeap} {q r : Option Addr} {c d : Nat} {t : List Tb} {l : List Bk} (hs : SlAt H 2 tb q t) (hn : t.length < 1000000000) (ht : SlAt H 4 bk r l) (hm : l.length < 1000000000) :
    Ret Tryz.prog 4 [.slice q t.length c, .slice r l.length d] H (.tuple ⟨[lstV H.fresh t, lstV (lstH H 2 tb t).fresh l]⟩) (lstH (lstH H 2 tb t) 4 bk l) := by
  refine fn_start Tryz.func4 rfl rfl rfl fun hc => ?_
  apply ct_seq
  apply ct_region
  iterate 2 (apply seq_plain; exact do_assign rfl; exact rfl)
  apply seq_nil
  apply ct_seq
  apply ct_region
  apply seq_plain; exact do_assign rfl; exact rfl
  apply seq_nil
  apply ct_seq
  apply ct_region
  apply seq_plain; exact do_assign rfl; exact rfl
  apply seq_nil
  iterate 2 (apply ct_seq)
  apply ct_region
  apply seq_plain; exact do_assign rfl; exact rfl
  apply seq_nil
  apply ct_block
  apply ct_loop
  refine lt_meas (α := Nat × Value × Nat × List (Option ABlk)) (fun a => [(0, .slice q t.length c), (1, .slice r l.length d), (6, a.2.1), (7, .slice none 0 0), (8, I a.1)]) (fun a => ext H H.fresh a.2.2.2) (fun a => a.1 ≤ t.length ∧ LstI H a.2.2.2 2 tb a.2.2.1 a.2.1 (t.take a.1)) (fun a => t.length - a.1) (fun a ha ih => ?_) (0, .slice none 0 0, 0, []) ⟨by simp, .nil⟩ (by repeat (first | exact sub_nil | apply sub_cons rfl)) (.refl _)
  obtain ⟨i, v, K, L⟩ := a
  obtain ⟨hi, hv⟩ := ha
  simp only at hi hv ih ⊢
  have ih' := fun i' v' K' L' a1 a2 a3 => ih (i', v', K', L') a1 ⟨a2, a3⟩
  simp only at ih'
  clear ih
  iterate 2 (apply ct_seq)
  apply ct_region
  iterate 2 (apply seq_plain; exact do_move rfl; exact rfl)
  apply seq_plain; exact do_lenS rfl rfl rfl; exact rfl
  apply seq_plain; exact do_binInt rfl rfl rfl trivial; exact rfl
  apply seq_nil
  refine ct_cond rfl (fun h1 => ?_) (fun h1 => ?_)
  · simp only [decide_eq_true_eq, Int.ofNat_lt] at h1
    obtain ⟨b, o, cs, z, s, ro, rfl, hg, hw⟩ := hs.out (by intro e; rw [e] at h1; simp at h1)
    apply ct_skip
    apply ct_seq
    apply ct_block
    apply ct_region
    iterate 3 (apply seq_plain; exact do_move rfl; exact rfl)
    apply seq_plain; exact do_indexAddrS rfl rfl rfl (by exact idx_nat (by omega)); exact rfl
    apply seq_plain; exact do_load rfl (by exact ext_get_old (by assumption) (by assumption)) rfl (by exact pt_sl (by assumption) (by omega)); exact rfl
    apply seq_newS; exact do_buildSlice rfl rfl rfl rfl rfl rfl rfl; exact rfl
    refine seq_growI (xs := [t[i]]) hc (hv.keeps (.app _)) (fun _ => rfl) (fun _ => rfl) rfl rfl rfl rfl rfl rfl (ext_get_new List.getElem?_concat_length) rfl (by simp) ?_ (Nat.ne_of_beq_eq_false rfl) (Nat.ne_of_beq_eq_false rfl) rfl (fun v' L3 hv' hst3 hlen3 => ?_)
    · exact Nat.le_trans (Nat.mul_le_mul_right _ (by simp only [List.length_cons, List.length_nil, List.length_take]; omega : _ ≤ 3000000000)) (Nat.le_of_ble_eq_true rfl)
    obtain ⟨J, hJ, hv'⟩ : ∃ J, J = L.length + 1 ∧ LstI H L3 2 tb J v' (t.take i ++ [t[i]]) := ⟨_, by simp, hv'⟩
    apply seq_plain; exact do_assign rfl; exact rfl
    apply seq_nil
    apply ct_region
    apply seq_plain; exact do_move rfl; exact rfl
    apply seq_plain; exact do_succ rfl (by omega); exact rfl
    apply seq_plain; exact do_assign rfl; exact rfl
    apply seq_nil
    refine lt_sub (by repeat (first | exact sub_nil | apply sub_cons rfl)) (ih' (i + 1) v' J L3 (by omega) (by omega) ?_)
    rw [take_snoc h1]; exact hv'
  have h1 : i = t.length := by simp at h1; omega
  subst h1
  rw [List.take_length] at hv
  clear ih'
  apply ct_exit
  apply exit_eq; exact rfl
  iterate 2 (apply ct_seq)
  apply ct_region
  apply seq_plain; exact do_assign rfl; exact rfl
  apply seq_nil
  apply ct_block
  apply ct_loop
  refine lt_meas (α := Nat × Value × Nat × List (Option ABlk)) (fun a => [(1, .slice r l.length d), (6, v), (7, a.2.1), (9, I a.1)]) (fun a => ext H H.fresh a.2.2.2) (fun a => a.1 ≤ l.length ∧ LstI H a.2.2.2 2 tb K v t ∧ LstI H a.2.2.2 4 bk a.2.2.1 a.2.1 (l.take a.1) ∧ (t ≠ [] → l.take a.1 ≠ [] → K ≠ a.2.2.1)) (fun a => l.length - a.1) (fun a ha ih => ?_) (0, .slice none 0 0, 0, L) ⟨by simp, hv, .nil, fun _ h => absurd rfl h⟩ (by repeat (first | exact sub_nil | apply sub_cons rfl)) (.refl _)
  clear hv hi L
  obtain ⟨i, w, K2, L⟩ := a
  obtain ⟨hi, hv, hw, hne⟩ := ha
  simp only at hi hv hw hne ih ⊢
  have ih' := fun i' v' K' L' a1 a2 a3 a4 a5 => ih (i', v', K', L') a1 ⟨a2, a3, a4, a5⟩
  simp only at ih'
  clear ih
  iterate 2 (apply ct_seq)
  apply ct_region
  iterate 2 (apply seq_plain; exact do_move rfl; exact rfl)
  apply seq_plain; exact do_lenS rfl rfl rfl; exact rfl
  apply seq_plain; exact do_binInt rfl rfl rfl trivial; exact rfl
  apply seq_nil
  refine ct_cond rfl (fun h1 => ?_) (fun h1 => ?_)
  · simp only [decide_eq_true_eq, Int.ofNat_lt] at h1
    obtain ⟨b, o, cs, z, s, ro, rfl, hg, hw'⟩ := ht.out (by intro e; rw [e] at h1; simp at h1)
    apply ct_skip
    apply ct_seq
    apply ct_block
    apply ct_region
    iterate 3 (apply seq_plain; exact do_move rfl; exact rfl)
    apply seq_plain; exact do_indexAddrS rfl rfl rfl (by exact idx_nat (by omega)); exact rfl
    apply seq_plain; exact do_load rfl (by exact ext_get_old (by assumption) (by assumption)) rfl (by exact pt_sl (by assumption) (by omega)); exact rfl
    apply seq_newS; exact do_buildSlice rfl rfl rfl rfl rfl rfl rfl; exact rfl
    refine seq_growI (xs := [l[i]]) hc (hw.keeps (.app _)) (fun _ => rfl) (fun _ => rfl) rfl rfl rfl rfl rfl rfl (ext_get_new List.getElem?_concat_length) rfl (by simp) ?_ (Nat.ne_of_beq_eq_false rfl) (Nat.ne_of_beq_eq_false rfl) rfl (fun v' L3 hv' hst3 hlen3 => ?_)
    · exact Nat.le_trans (Nat.mul_le_mul_right _ (by simp only [List.length_cons, List.length_nil, List.length_take]; omega : _ ≤ 3000000000)) (Nat.le_of_ble_eq_true rfl)
    have hv3 : LstI H L3 2 tb K v t := (hv.keeps (.app _)).keep fun hn => hst3 K (by have := hv.lt hn; simp; omega) fun h => hne hn h
    obtain ⟨J, hJ, hv'⟩ : ∃ J, J = L.length + 1 ∧ LstI H L3 4 bk J v' (l.take i ++ [l[i]]) := ⟨_, by simp, hv'⟩
    apply seq_plain; exact do_assign rfl; exact rfl
    apply seq_nil
    apply ct_region
    apply seq_plain; exact do_move rfl; exact rfl
    apply seq_plain; exact do_succ rfl (by omega); exact rfl
    apply seq_plain; exact do_assign rfl; exact rfl
    apply seq_nil
    refine lt_sub (by repeat (first | exact sub_nil | apply sub_cons rfl)) (ih' (i + 1) v' J L3 (by omega) (by omega) hv3 ?_ fun hn _ => ?_)
    · rw [take_snoc h1]; exact hv'
    · have := hv.lt hn
      omega
  have h1 : i = l.length := by simp at h1; omega
  subst h1
  rw [List.take_length] at hw hne
  apply ct_exit
  apply exit_eq; exact rfl
  apply ct_seq
  apply ct_region
  iterate 2 (apply seq_plain; exact do_move rfl; exact rfl)
  iterate 2 (apply seq_plain; exact do_assign rfl; exact rfl)
  apply seq_nil
  apply ct_ret
  exact fin_lists hc hv hw hne rfl (fun _ => rfl) (fun _ => rfl) ⟨rfl, rfl⟩
end Go.Proofs.YtflbffhahoblfaaGreatDoor
