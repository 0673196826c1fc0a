/- HallSums: the contract over every input. -/
import Derived.Test.YtflbffhahoblfaaGreatDoorElI
import Derived.Test.YtflbffhahoblfaaGreatDoorPrA
import Derived.Test.YtflbffhahoblfaaGreatDoorAwake
import Derived.Test.YtflbffhahoblfaaGreatDoorTcH
import Derived.Test.YtflbffhahoblfaaGreatDoorSxM
import Derived.Test.YtflbffhahoblfaaGreatDoorSxQ
import Derived.Test.YtflbffhahoblfaaGreatDoorPnF
import Derived.Test.YtflbffhahoblfaaGreatDoorSxP
noncomputable section
namespace Go.Proofs.YtflbffhahoblfaaGreatDoor
open Go Go.Den Go.ChangeShapes Go.WideShapes Go.ChangeAt Go.RowKit Go.Deep
set_option maxRecDepth 10000
noncomputable instance : Inhabited Ra := ⟨⟨0, 0, 0⟩⟩
section
variable {H : Type} {enc : TypeId × Value → H} {W : World} {sp : Nat → Bool} {hd : Bool} {fuel : Nat}
end
theorem OpU.low {W : World} {α : Type} {f : α → List Value} {w : Nat} {v : Value} {o : Option BB} {p : Nat → Option Addr} {c : Nat} {l : List α} (h : OpU W f w v o p c l) (k : Nat) : LowS (p k) c l.length := ⟨h.cap, h.nil k, h.spot k⟩
end Go.Proofs.YtflbffhahoblfaaGreatDoor
/- Groups of teams with the same figures: the map of lists, small contracts. -/
noncomputable section
namespace Go.Proofs.YtflbffhahoblfaaGreatDoor
open Go Go.Den
set_option maxRecDepth 100000
section
variable {α β : Type} [DecidableEq α]
theorem getK_mem {ks : List (α × β)} {a : α} {v : β} (h : getK ks a = some v) : (a, v) ∈ ks := by
  unfold getK at h
  cases hf : ks.find? fun p => decide (p.1 = a) with
  | none => rw [hf] at h; cases h
  | some p =>
    rw [hf] at h
    simp only [Option.map_some, Option.some.injEq] at h
    have h1 := List.find?_some hf
    have h2 := List.mem_of_find?_eq_some hf
    have h1 : p.1 = a := by simpa using h1
    subst h; subst h1
    exact h2
theorem putK_mem {ks : List (α × β)} {a : α} {v : β} {p : α × β} (hnd : (ks.map (·.1)).Nodup) (h : p ∈ putK ks a v) : p = (a, v) ∨ (p ∈ ks ∧ p.1 ≠ a) := by
  induction ks with
  | nil => simp only [putK, List.mem_singleton] at h; exact .inl h
  | cons x r ih =>
    rw [List.map_cons, List.nodup_cons] at hnd
    simp only [putK] at h
    by_cases e : x.1 = a
    · rw [if_pos e] at h
      rcases List.mem_cons.1 h with h | h
      · exact .inl h
      · refine .inr ⟨List.mem_cons_of_mem _ h, fun e2 => hnd.1 ?_⟩
        rw [e, ← e2]
        exact List.mem_map.2 ⟨p, h, rfl⟩
    · rw [if_neg e] at h
      rcases List.mem_cons.1 h with h | h
      · subst h
        exact .inr ⟨List.mem_cons_self .., e⟩
      · rcases ih hnd.2 h with h | ⟨h1, h2⟩
        · exact .inl h
        · exact .inr ⟨List.mem_cons_of_mem _ h1, h2⟩
theorem putK_nodup {ks : List (α × β)} {a : α} {v : β} (hnd : (ks.map (·.1)).Nodup) : ((putK ks a v).map (·.1)).Nodup := by
  rw [putK_keys]
  unfold addK
  split
  · exact hnd
  · rename_i h
    rw [List.nodup_append]
    refine ⟨hnd, by simp, fun x hx y hy e => h ?_⟩
    rw [List.mem_singleton] at hy
    rw [← hy, ← e]; exact hx
end
theorem i1_inj : ∀ {l m : List Int}, l.flatMap i1 = m.flatMap i1 → l = m
  | [], [], _ => rfl
  | [], _ :: _, h => by simp [i1] at h
  | _ :: _, [], h => by simp [i1] at h
  | a :: r, b :: s, h => by
    have h2 : I a :: r.flatMap i1 = I b :: s.flatMap i1 := h
    simp only [List.cons.injEq, Value.int.injEq, true_and] at h2
    rw [h2.1, i1_inj h2.2]
structure Grp (H : AHeap) (L : List (Option ABlk)) (T : List Rw) (i : Nat) (ks : List (Fg × Value)) : Prop where
  lst : ∀ p ∈ ks, Lst H L 1 i1 0 p.2 (idxs T p.1 i) ∧ idxs T p.1 i ≠ []
  nd : (ks.map (·.1)).Nodup
  miss : ∀ a, getK ks a = none → idxs T a i = []
section
variable {H : AHeap} {L L' : List (Option ABlk)} {T : List Rw} {i : Nat} {ks : List (Fg × Value)}
theorem Grp.zero : Grp H L T 0 [] := ⟨fun _ h => (by cases h), List.Pairwise.nil, fun _ _ => rfl⟩
theorem Grp.get (h : Grp H L T i ks) (a : Fg) : Lst H L 1 i1 0 ((getK ks a).elim (.slice none 0 0) id) (idxs T a i) := by
  cases e : getK ks a with
  | none => rw [h.miss a e]; exact .nil
  | some v => exact (h.lst _ (getK_mem e)).1
theorem Grp.move (h : Grp H L T i ks) (hs : ∀ (j : Nat) cs, L[j]? = some (some (ABlk.cells cs 1 true false)) → L'[j]? = some (some (ABlk.cells cs 1 true false))) : Grp H L' T i ks :=
  ⟨fun p hp => ⟨(h.lst p hp).1.move fun _ j hj => hs j _ hj, (h.lst p hp).2⟩, h.nd, h.miss⟩
theorem Grp.put (h : Grp H L T i ks) (hi : i < T.length) {v : Value} (hv : Lst H L' 1 i1 0 v (idxs T (figL T[i]) i ++ [(i : Int)]))
    (hs : ∀ (j : Nat) cs, L[j]? = some (some (ABlk.cells cs 1 true false)) → (idxs T (figL T[i]) i ≠ [] → cs ≠ (idxs T (figL T[i]) i).flatMap i1) → L'[j]? = some (some (ABlk.cells cs 1 true false))) : Grp H L' T (i + 1) (putK ks (figL T[i]) v) := by
  refine ⟨fun p hp => ?_, putK_nodup h.nd, fun a ha => ?_⟩
  · rcases putK_mem h.nd hp with rfl | ⟨h1, h2⟩
    · simp only
      rw [idxs_succ hi, if_pos rfl]
      exact ⟨hv, by simp⟩
    · rw [idxs_succ hi, if_neg (fun e => h2 e.symm)]
      obtain ⟨q1, q2⟩ := h.lst p h1
      refine ⟨q1.move fun _ j hj => hs j _ hj fun _ e => ?_, q2⟩
      exact idxs_ne h2 q2 (i1_inj e)
  · rw [getK_put] at ha
    by_cases e : figL T[i] = a
    · rw [if_pos e] at ha; cases ha
    · rw [if_neg e] at ha
      rw [idxs_succ hi, if_neg e]
      exact h.miss a ha
theorem Grp.key (h : Grp H L T i ks) {k : Nat} (hk : k < i) (hi : i ≤ T.length) : ∃ j, ∃ hj : j < ks.length, (k : Int) ∈ idxs T ks[j].1 i := by
  have hkT : k < T.length := by omega
  have hm : (k : Int) ∈ idxs T (figL T[k]) i := mem_idxs.2 ⟨k, hk, rfl, by rw [List.getElem?_eq_getElem hkT]; rfl⟩
  cases e : getK ks (figL T[k]) with
  | none => rw [h.miss _ e] at hm; cases hm
  | some v =>
    obtain ⟨j, hj, e2⟩ := List.getElem_of_mem (getK_mem e)
    exact ⟨j, hj, by rw [e2]; exact hm⟩
end
end Go.Proofs.YtflbffhahoblfaaGreatDoor
