/- Contracts: all rounds, as the program makes them. -/
import Derived.Test.YtflbffhahoblfaaGreatDoorBgA
import Derived.Test.YtflbffhahoblfaaGreatDoorStB
import Derived.Test.YtflbffhahoblfaaGreatDoorElI
noncomputable section
namespace Go.Proofs.YtflbffhahoblfaaGreatDoor
open Go Go.Den
set_option maxRecDepth 100000
abbrev bx (vs : List Value) : ABlk := .cells vs 0 false false
theorem nb_two {H : AHeap} {k : Nat} : nb H k + 2 = nb H (k + 1) := by simp only [nb]; omega
end Go.Proofs.YtflbffhahoblfaaGreatDoor
/- Contracts: the function that yields the beginnings; ends with blocks that hold old addresses. -/
noncomputable section
namespace Go.Den
def OldS (H : AHeap) (q : Option Addr) : Prop := ∀ x, q = some x → (x.block % 2 = 1 ∨ x.block < H.fresh) ∧ x.spot = none
theorem OldS.ext {H : AHeap} {q : Option Addr} (h : OldS H q) {lo : Nat} {L : List (Option ABlk)} : OldS (ext H lo L) q := fun x hx => by
  obtain ⟨h1, h2⟩ := h x hx
  refine ⟨h1.imp id fun h => ?_, h2⟩
  rw [ext_fresh]
  have := nb_ge (H := H) L.length
  omega
theorem OldS.nil {H : AHeap} : OldS H none := fun _ h => by cases h
theorem OldS.new {H : AHeap} {lo k o : Nat} {L : List (Option ABlk)} (h : k < L.length) : OldS (Go.Den.ext H lo L) (some ⟨Go.Den.nb H k, o, none⟩) := fun x hx => by
  cases hx
  refine ⟨.inr ?_, rfl⟩
  rw [ext_fresh]; simp only [Go.Den.nb]; omega
theorem OldS.ren {H : AHeap} {q : Option Addr} (h : OldS H q) {lb : List Nat} {n c d : Nat} : renV (renOf H lb) (d + 1) (.slice q n c) = some (.slice q n c) := by
  cases q with
  | none => rfl
  | some x =>
    obtain ⟨h1, h2⟩ := h x rfl
    obtain ⟨b, o, s⟩ := x
    simp only at h1 h2
    subst h2
    simp [renV, renOf_old h1]
theorem fin_twoR {P : Program} {H : AHeap} {Q : Value → AHeap → Prop} {rs : Array ResultVar} {l : EL} {L : List (Option ABlk)} {lo : Nat} {vs : List Value} {v : Value} {j k : Nat} {x y : ABlk} (hc : Closed H) (hr : resE l rs.toList = some vs)
    (hj : L[j]? = some (some x)) (hk : L[k]? = some (some y)) (hne : j ≠ k) (hf : renB (renOf H [nb H j, nb H k]) x = some x) (hf' : renB (renOf H [nb H j, nb H k]) y = some y) (hv : renV (renOf H [nb H j, nb H k]) 8 (packA vs) = some v) (hq : Q v ((H.add x).add y)) :
    Fin P rs H Q ⟨ofA l, [], ext H lo L⟩ := by
  refine ⟨⟨_, vs, v, _, rfl, resE_A hr, ?_, hq⟩⟩
  refine tidy_of (H0 := H) (ys := [x, y]) (ren_ext hc (fun _ _ h => ext_get_old hc h) (l := [nb H j, nb H k]) ?_ ?_ rfl ?_) hv
  · simp only [List.nodup_cons, List.mem_singleton, List.not_mem_nil, not_false_eq_true, List.nodup_nil, and_true]
    intro e; exact hne (nb_inj.1 e)
  · intro b hb
    simp only [List.mem_cons, List.not_mem_nil, or_false] at hb
    rcases hb with rfl | rfl
    · exact ⟨own_iff.1 (nb_own _), nb_ge _⟩
    · exact ⟨own_iff.1 (nb_own _), nb_ge _⟩
  · intro i b z hb hz
    match i, hb, hz with
    | 0, hb, hz =>
      simp only [List.getElem?_cons_zero, Option.some.injEq] at hb hz
      subst hb; subst hz
      exact ⟨_, ext_get_new hj, hf⟩
    | 1, hb, hz =>
      simp only [List.getElem?_cons_succ, List.getElem?_cons_zero, Option.some.injEq] at hb hz
      subst hb; subst hz
      exact ⟨_, ext_get_new hk, hf'⟩
    | i + 2, hb, hz => simp at hb
end Go.Den
namespace Go.Proofs.YtflbffhahoblfaaGreatDoor
open Go Go.Den
set_option maxRecDepth 100000
theorem OpU.odd {W : World} {α : Type} {f : α → List Value} {w : Nat} {v : Value} {o : Option BB} {p : Nat → Option Addr} {c : Nat} {l : List α} (h : OpU W f w v o p c l) {B : Nat → Option BB} {k : Nat} (hk : 1000 ≤ k) (hb : B k = o) {H : AHeap} : OldS H (p k) := fun x hx => by
  have h1 := h.vr B k hk hb
  have h2 := h.spot k x hx
  rw [hx] at h1
  obtain ⟨b, off, s⟩ := x
  simp only at h2
  subst h2
  refine ⟨.inl ?_, rfl⟩
  cases h1 with
  | slice hi _ =>
    unfold gaOf at hi
    split at hi
    · assumption
    · cases hi
def begV (a b : Nat) : Value := .func (.func 92) #[] #[.pointer (some ⟨a, 0, none⟩), .pointer (some ⟨b, 0, none⟩)]
theorem begins_c {H : AHeap} {q : Option Addr} {n c : Nat} {k : ByteArray} (hq : OldS H q) : Ret Tryz.prog 50 [.slice q n c, .string k] H (begV H.fresh (H.fresh + 2)) ((H.add (.cells [.slice q n c] 0 false false)).add (.cells [.string k] 0 false false)) := by
  refine fn_start Tryz.func50 rfl rfl rfl fun hc => ?_
  apply ct_seq
  apply ct_region
  iterate 2 (apply seq_newP; exact do_box rfl rfl rfl; exact rfl)
  apply seq_plain; exact do_assign rfl; exact rfl
  apply seq_nil
  apply ct_seq
  apply ct_region
  apply seq_plain; exact do_makeFunc rfl rfl; exact rfl
  apply seq_plain; exact do_assign rfl; exact rfl
  apply seq_nil
  apply ct_ret
  obtain ⟨q1, q2⟩ := renOf_two (H := H) (a := nb H 0) (b := nb H 1) ⟨own_iff.1 (nb_own 0), nb_ge 0⟩ ⟨own_iff.1 (nb_own 1), nb_ge 1⟩ (by simp only [nb]; omega)
  refine fin_twoR (j := 0) (k := 1) hc rfl rfl rfl (by omega) ?_ rfl ?_ ⟨rfl, rfl⟩
  · have := hq.ren (lb := [nb H 0, nb H 1]) (n := n) (c := c) (d := 7)
    simp [renB, renL, Value.cells, this]
  · simp [packA, renV, renL, begV, q1, q2]
end Go.Proofs.YtflbffhahoblfaaGreatDoor
/- Contracts: the greatest depth. -/
noncomputable section
namespace Go.Proofs.YtflbffhahoblfaaGreatDoor
open Go Go.Den
set_option maxRecDepth 100000
theorem ext_high {H : AHeap} (hc : Closed H) {lo lo2 K b : Nat} {N N2 : List (Option ABlk)} (hb : nb H (K + 1) ≤ b) (he : b % 2 = 0) (h : ∀ m, K < m → N2[m]? = N[m]?) : (ext H lo2 N2).get b = (ext H lo N).get b := by
  rw [ext_get hc, ext_get hc]
  have h1 : H.fresh ≤ b := Nat.le_trans (nb_ge _) hb
  rw [if_pos ⟨he, h1⟩, if_pos ⟨he, h1⟩]
  have h2 : K < b / 2 - H.next := by simp only [nb, AHeap.fresh] at hb h1; omega
  rw [h _ h2]
end Go.Proofs.YtflbffhahoblfaaGreatDoor
