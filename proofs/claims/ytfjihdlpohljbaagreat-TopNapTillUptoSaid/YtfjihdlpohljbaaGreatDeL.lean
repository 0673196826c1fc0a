/- Contracts: the function that yields the beginnings; ends with blocks that hold old addresses. -/
import Derived.Test.YtfjihdlpohljbaaGreatFxS
import Derived.Test.YtfjihdlpohljbaaGreatAwake
import Derived.Test.YtfjihdlpohljbaaGreatHkC
noncomputable section
namespace Go.Den
/-- an address from before the call -/
def OldS (H : AHeap) (q : Option Addr) : Prop := ∀ x, q = some x → (x.block % 2 = 1 ∨ x.block < H.fresh) ∧ x.spot = none
theorem OldS.ext {H : AHeap} {q : Option Addr} (h : OldS H q) {lo : Nat} {L : List (Option ABlk)} : OldS (ext H lo L) q := fun x hx => by
  obtain ⟨h1, h2⟩ := h x hx
  refine ⟨h1.imp id fun h => ?_, h2⟩
  rw [ext_fresh]
  have := nb_ge (H := H) L.length
  omega
theorem OldS.nil {H : AHeap} : OldS H none := fun _ h => by cases h
theorem OldS.new {H : AHeap} {lo k o : Nat} {L : List (Option ABlk)} (h : k < L.length) : OldS (Go.Den.ext H lo L) (some ⟨Go.Den.nb H k, o, none⟩) := fun x hx => by
  cases hx
  refine ⟨.inr ?_, rfl⟩
  rw [ext_fresh]; simp only [Go.Den.nb]; omega
theorem OldS.ren {H : AHeap} {q : Option Addr} (h : OldS H q) {lb : List Nat} {n c d : Nat} : renV (renOf H lb) (d + 1) (.slice q n c) = some (.slice q n c) := by
  cases q with
  | none => rfl
  | some x =>
    obtain ⟨h1, h2⟩ := h x rfl
    obtain ⟨b, o, s⟩ := x
    simp only at h1 h2
    subst h2
    simp [renV, renOf_old h1]
end Go.Den
namespace Go.Proofs.YtfjihdlpohljbaaGreat
open Go Go.Den
set_option maxRecDepth 100000

theorem OpU.odd {W : World} {α : Type} {f : α → List Value} {w : Nat} {v : Value} {o : Option BB} {p : Nat → Option Addr} {c : Nat} {l : List α} (h : OpU W f w v o p c l) {B : Nat → Option BB} {k : Nat} (hk : 1000 ≤ k) (hb : B k = o) {H : AHeap} : OldS H (p k) := fun x hx => by
  have h1 := h.vr B k hk hb
  have h2 := h.spot k x hx
  rw [hx] at h1
  obtain ⟨b, off, s⟩ := x
  simp only at h2
  subst h2
  refine ⟨.inl ?_, rfl⟩
  cases h1 with
  | slice hi _ =>
    unfold gaOf at hi
    split at hi
    · assumption
    · cases hi
end Go.Proofs.YtfjihdlpohljbaaGreat
/- Contracts: the first kind with too many bookings, as the reference has it. -/
noncomputable section
namespace Go.Proofs.YtfjihdlpohljbaaGreat
open Go Go.Den
set_option maxRecDepth 100000
abbrev Ovb := ByteArray × Int × Bool
def roB (a : Ovb) (x : Bk) : Bool := (!a.2.2 || Op.bytesLess x.kind.data.toList a.1.data.toList) || (decide (x.kind = a.1) && decide (x.frm < a.2.1))
def roS (t : List Tb) (l : List Bk) (a : Ovb) (x : Bk) : Ovb := if (cntD l x.kind x.frm : Int) ≤ cntK t x.kind then a else if roB a x = true then (x.kind, x.frm, true) else a
def roA (t : List Tb) (l : List Bk) (i : Nat) : Ovb := (l.take i).foldl (roS t l) (strB [], 0, false)
theorem roA_succ {t : List Tb} {l : List Bk} {i : Nat} (h : i < l.length) : roA t l (i + 1) = roS t l (roA t l i) l[i] := by
  unfold roA
  rw [take_snoc h, List.foldl_append]; rfl
end Go.Proofs.YtfjihdlpohljbaaGreat
/- Contracts: the first kind with too many bookings. -/
noncomputable section
namespace Go.Den
end Go.Den
namespace Go.Proofs.YtfjihdlpohljbaaGreat
open Go Go.Den Go.Sort
set_option maxRecDepth 100000

/-- the kinds of the tables -/
def kdL (t : List Tb) : List (List UInt8) := t.map fun x => x.kind.data.toList
def kdD (t : List Tb) : List (List UInt8) := Lib.compact (srtS (kdL t))
/-- what lies there between the rounds, and behind them -/
structure Jo (H : AHeap) (F : List (Nat × ABlk)) (K : Nat) (R : ALoop) (C : Prop) (h : AHeap) : Prop where
  low : h.low ≤ h.fresh
  closed : Closed h
  out : ∃ N, LQ h (ext H 0 N) ∧ Has N F ∧ N[K]? = some (some (.loop R)) ∧ C
section
variable {H : AHeap} {F : List (Nat × ABlk)} {K : Nat} {R : ALoop} {C : Prop} {h h' : AHeap}
theorem Jo.st (q : LQ h h') (hl : h'.low ≤ h'.fresh) (hj : Jo H F K R C h) : Jo H F K R C h' := by
  obtain ⟨N, a, b⟩ := hj.out
  exact ⟨hl, q.closed hj.closed, N, q.symm.trans a, b⟩
theorem Jo.ext (hc : Closed H) {lo : Nat} {M : List (Option ABlk)} (hj : Jo H F K R C h) : Jo H F K R C (Go.Den.ext h lo M) := by
  obtain ⟨N, a, b, c, d⟩ := hj.out
  exact ⟨low_ext, ext_closed hj.closed, N ++ M, (a.ext hj.closed).trans (ext_ext (lo' := 0) hc), b.app M, getApp c, d⟩
theorem Jo.get (hj : Jo H F K R C h) {k : Nat} {y : ABlk} (hm : (k, y) ∈ F) : h.get (nb H k) = some y := by
  obtain ⟨N, a, b, _⟩ := hj.out
  rw [a.get, ext_get_new (b.at hm)]
theorem Jo.loop (hj : Jo H F K R C h) : h.get (nb H K) = some (.loop R) := by
  obtain ⟨N, a, b, c, _⟩ := hj.out
  rw [a.get, ext_get_new c]
theorem Jo.Ext (hc : Closed H) (hj : Jo H F K R C h) : Ext H h := fun b y hb => by
  obtain ⟨N, a, _⟩ := hj.out
  rw [a.get]; exact ext_get_old hc hb
end
/-- the first quarter at which there are too many of a kind -/
def ovK (t : List Tb) (l : List Bk) (k : ByteArray) : Option Int := ((begP l k).find? fun p => decide (p.2 > (cntK t k : Int))).map (·.1)
def ovL (t : List Tb) (l : List Bk) : List (List UInt8) → ByteArray × Int
  | [] => (strB [], 0)
  | k :: r => match ovK t l (strB k) with
    | some q => (strB k, q)
    | none => ovL t l r
def ovV (t : List Tb) (l : List Bk) : ByteArray × Int := ovL t l (kdD t)
end Go.Proofs.YtfjihdlpohljbaaGreat
/- Contracts: Overbooked, and whether bookings fit. -/
noncomputable section
namespace Go.Proofs.YtfjihdlpohljbaaGreat
open Go Go.Den
set_option maxRecDepth 100000
/-- no kind has too many bookings -/
def fitB (t : List Tb) (l : List Bk) : Bool := decide ((ovV t l).1 = strB [])
end Go.Proofs.YtfjihdlpohljbaaGreat
/- Plain law: the greatest depth is at a beginning. -/
noncomputable section
namespace Go.Proofs.YtfjihdlpohljbaaGreat
open Go Go.Den Go.Sort

theorem max_at : ∀ {l : List Int}, l ≠ [] → ∃ f ∈ l, ∀ g ∈ l, g ≤ f
  | [], h => absurd rfl h
  | [a], _ => ⟨a, by simp, by simp⟩
  | a :: b :: l, _ => by
    obtain ⟨f, hf, hm⟩ := max_at (l := b :: l) (by simp)
    by_cases h : f ≤ a
    · exact ⟨a, by simp, fun g hg => by
        rcases List.mem_cons.1 hg with rfl | hg
        · exact Int.le_refl _
        · exact Int.le_trans (hm g hg) h⟩
    · exact ⟨f, List.mem_cons_of_mem _ hf, fun g hg => by
        rcases List.mem_cons.1 hg with rfl | hg
        · omega
        · exact hm g hg⟩
theorem isAt_iff {k : ByteArray} {q : Int} {x : Bk} : isAt k q x = true ↔ x.kind = k ∧ x.frm ≤ q ∧ q < x.to := by
  unfold isAt
  simp only [Bool.and_eq_true, decide_eq_true_eq]
theorem mem_froms {l : List Bk} {k : ByteArray} {f : Int} : f ∈ froms l k ↔ ∃ x ∈ l, x.kind = k ∧ x.frm = f := by
  unfold froms
  simp only [List.mem_map, List.mem_filter, decide_eq_true_eq, and_assoc]
theorem mem_begL {l : List Bk} {k : ByteArray} {f : Int} : f ∈ begL l k ↔ f ∈ froms l k := by
  unfold begL
  rw [compact_mem, (srtI_perm _).mem_iff]
theorem begL_srt (l : List Bk) (k : ByteArray) : (begL l k).Pairwise (· < ·) := by
  have := compact_srt (R := fun a b : Int => a ≤ b) (fun a b h1 h2 => by omega) (fun a => by omega) (srtI_srt (froms l k))
  exact this.imp fun h => by omega
/-- whoever is there at a quarter was there when the last of them came -/
theorem depth_key {l : List Bk} {k : ByteArray} {q : Int} (h : 0 < cntD l k q) : ∃ f ∈ froms l k, f ≤ q ∧ cntD l k q ≤ cntD l k f := by
  unfold cntD at h
  obtain ⟨x, hx, hp⟩ := List.countP_pos_iff.1 h
  obtain ⟨f, hf, hm⟩ := max_at (l := (l.filter (isAt k q)).map (·.frm)) (by
    intro e
    have : x.frm ∈ (l.filter (isAt k q)).map (·.frm) := List.mem_map.2 ⟨x, List.mem_filter.2 ⟨hx, hp⟩, rfl⟩
    rw [e] at this; cases this)
  obtain ⟨y, hy, rfl⟩ := List.mem_map.1 hf
  obtain ⟨hy, hyp⟩ := List.mem_filter.1 hy
  obtain ⟨y1, y2, y3⟩ := isAt_iff.1 hyp
  refine ⟨y.frm, mem_froms.2 ⟨y, hy, y1, rfl⟩, y2, ?_⟩
  unfold cntD
  refine List.countP_mono_left fun z hz hzp => ?_
  obtain ⟨z1, z2, z3⟩ := isAt_iff.1 hzp
  have := hm z.frm (List.mem_map.2 ⟨z, List.mem_filter.2 ⟨hz, hzp⟩, rfl⟩)
  exact isAt_iff.2 ⟨z1, this, by omega⟩
/-- the best of some quarters: the greatest depth, there as early as can be -/
structure Best (S : Int → Int) (C : Int → Prop) (a : Int × Int) : Prop where
  zero : a.1 = 0 → a = (0, 0)
  nonneg : 0 ≤ a.1
  at_ : a.1 ≠ 0 → C a.2 ∧ S a.2 = a.1
  ge : ∀ q, C q → S q ≤ a.1
  first : ∀ q, C q → S q = a.1 → a.1 ≠ 0 → a.2 ≤ q
theorem Best.uniq {S : Int → Int} {C C' : Int → Prop} {a b : Int × Int} (ha : Best S C a) (hb : Best S C' b) (h1 : ∀ q, C q → C' q) (h2 : ∀ q, C' q → 0 < S q → ∃ f, C f ∧ f ≤ q ∧ S q ≤ S f) : a = b := by
  have e1 : a.1 ≤ b.1 := by
    by_cases h : a.1 = 0
    · rw [h]; exact hb.nonneg
    · obtain ⟨c1, c2⟩ := ha.at_ h
      rw [← c2]; exact hb.ge _ (h1 _ c1)
  have e2 : b.1 ≤ a.1 := by
    by_cases h : b.1 = 0
    · rw [h]; exact ha.nonneg
    · obtain ⟨c1, c2⟩ := hb.at_ h
      have := hb.nonneg
      obtain ⟨f, f1, f2, f3⟩ := h2 _ c1 (by omega)
      have := ha.ge f f1
      omega
  by_cases h : a.1 = 0
  · rw [ha.zero h, hb.zero (by omega)]
  · obtain ⟨c1, c2⟩ := ha.at_ h
    obtain ⟨d1, d2⟩ := hb.at_ (by omega)
    have f1 := hb.first _ (h1 _ c1) (by omega) (by omega)
    have := ha.nonneg
    obtain ⟨f, g1, g2, g3⟩ := h2 _ d1 (by omega)
    have g4 := ha.ge f g1
    have g5 := ha.first f g1 (by omega) h
    exact Prod.ext (by omega) (by omega)
theorem Best.congr {S : Int → Int} {C C' : Int → Prop} {a : Int × Int} (h : Best S C a) (e : ∀ z, C z ↔ C' z) : Best S C' a :=
  ⟨h.zero, h.nonneg, fun h0 => ⟨(e _).1 (h.at_ h0).1, (h.at_ h0).2⟩, fun q hq => h.ge q ((e _).2 hq), fun q hq => h.first q ((e _).2 hq)⟩
theorem Best.nil {S : Int → Int} : Best S (fun _ => False) (0, 0) := ⟨fun _ => rfl, by simp, fun h => absurd rfl h, fun _ h => h.elim, fun _ h => h.elim⟩
theorem Best.new {S : Int → Int} {C : Int → Prop} {a : Int × Int} {q : Int} (hb : Best S C a) (h : S q > a.1 ∨ ((S q = a.1 ∧ S q > 0) ∧ q < a.2)) : Best S (fun z => C z ∨ z = q) (S q, q) := by
  have h0 := hb.nonneg
  refine ⟨fun e => ?_, by simp only; omega, fun _ => ⟨.inr rfl, rfl⟩, fun z hz => ?_, fun z hz e _ => ?_⟩
  · simp only at e; omega
  · rcases hz with hz | rfl
    · have := hb.ge z hz; simp only; omega
    · exact Int.le_refl _
  · simp only at e ⊢
    rcases hz with hz | rfl
    · have h1 := hb.ge z hz
      have h2 := hb.first z hz (by omega) (by omega)
      omega
    · exact Int.le_refl _
theorem Best.old {S : Int → Int} {C : Int → Prop} {a : Int × Int} {q : Int} (hb : Best S C a) (h : ¬ (S q > a.1 ∨ ((S q = a.1 ∧ S q > 0) ∧ q < a.2))) : Best S (fun z => C z ∨ z = q) a := by
  have h0 := hb.nonneg
  refine ⟨hb.zero, h0, fun e => ⟨.inl (hb.at_ e).1, (hb.at_ e).2⟩, fun z hz => ?_, fun z hz e e0 => ?_⟩
  · rcases hz with hz | rfl
    · exact hb.ge z hz
    · omega
  · rcases hz with hz | rfl
    · exact hb.first z hz e e0
    · omega
end Go.Proofs.YtfjihdlpohljbaaGreat
