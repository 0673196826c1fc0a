/- Groups of teams with the same figures: the map of lists, small contracts. -/
import Derived.Test.YtfjihdlpohljbaaGreatSxZ
import Derived.Test.YtfjihdlpohljbaaGreatSxU
import Derived.Test.YtfjihdlpohljbaaGreatSxK
import Derived.Test.YtfjihdlpohljbaaGreatElJ
import Derived.Lib.SmallJoins
import Derived.Test.YtfjihdlpohljbaaGreatRows
import Derived.Test.YtfjihdlpohljbaaGreatHaC
import Derived.Test.YtfjihdlpohljbaaGreatSxQ
noncomputable section
namespace Go.Proofs.YtfjihdlpohljbaaGreat
open Go Go.Den
set_option maxRecDepth 100000

section
variable {α β : Type} [DecidableEq α]
theorem getK_mem {ks : List (α × β)} {a : α} {v : β} (h : getK ks a = some v) : (a, v) ∈ ks := by
  unfold getK at h
  cases hf : ks.find? fun p => decide (p.1 = a) with
  | none => rw [hf] at h; cases h
  | some p =>
    rw [hf] at h
    simp only [Option.map_some, Option.some.injEq] at h
    have h1 := List.find?_some hf
    have h2 := List.mem_of_find?_eq_some hf
    have h1 : p.1 = a := by simpa using h1
    subst h; subst h1
    exact h2
theorem putK_mem {ks : List (α × β)} {a : α} {v : β} {p : α × β} (hnd : (ks.map (·.1)).Nodup) (h : p ∈ putK ks a v) : p = (a, v) ∨ (p ∈ ks ∧ p.1 ≠ a) := by
  induction ks with
  | nil => simp only [putK, List.mem_singleton] at h; exact .inl h
  | cons x r ih =>
    rw [List.map_cons, List.nodup_cons] at hnd
    simp only [putK] at h
    by_cases e : x.1 = a
    · rw [if_pos e] at h
      rcases List.mem_cons.1 h with h | h
      · exact .inl h
      · refine .inr ⟨List.mem_cons_of_mem _ h, fun e2 => hnd.1 ?_⟩
        rw [e, ← e2]
        exact List.mem_map.2 ⟨p, h, rfl⟩
    · rw [if_neg e] at h
      rcases List.mem_cons.1 h with h | h
      · subst h
        exact .inr ⟨List.mem_cons_self .., e⟩
      · rcases ih hnd.2 h with h | ⟨h1, h2⟩
        · exact .inl h
        · exact .inr ⟨List.mem_cons_of_mem _ h1, h2⟩
theorem putK_nodup {ks : List (α × β)} {a : α} {v : β} (hnd : (ks.map (·.1)).Nodup) : ((putK ks a v).map (·.1)).Nodup := by
  rw [putK_keys]
  unfold addK
  split
  · exact hnd
  · rename_i h
    rw [List.nodup_append]
    refine ⟨hnd, by simp, fun x hx y hy e => h ?_⟩
    rw [List.mem_singleton] at hy
    rw [← hy, ← e]; exact hx
end
theorem i1_inj : ∀ {l m : List Int}, l.flatMap i1 = m.flatMap i1 → l = m
  | [], [], _ => rfl
  | [], _ :: _, h => by simp [i1] at h
  | _ :: _, [], h => by simp [i1] at h
  | a :: r, b :: s, h => by
    have h2 : I a :: r.flatMap i1 = I b :: s.flatMap i1 := h
    simp only [List.cons.injEq, Value.int.injEq, true_and] at h2
    rw [h2.1, i1_inj h2.2]
/-- the map of the teams with the same figures, of the rows before i -/
structure Grp (H : AHeap) (L : List (Option ABlk)) (T : List Rw) (i : Nat) (ks : List (Fg × Value)) : Prop where
  lst : ∀ p ∈ ks, Lst H L 1 i1 0 p.2 (idxs T p.1 i) ∧ idxs T p.1 i ≠ []
  nd : (ks.map (·.1)).Nodup
  miss : ∀ a, getK ks a = none → idxs T a i = []
section
variable {H : AHeap} {L L' : List (Option ABlk)} {T : List Rw} {i : Nat} {ks : List (Fg × Value)}
theorem Grp.zero : Grp H L T 0 [] := ⟨fun _ h => (by cases h), List.Pairwise.nil, fun _ _ => rfl⟩
theorem Grp.get (h : Grp H L T i ks) (a : Fg) : Lst H L 1 i1 0 ((getK ks a).elim (.slice none 0 0) id) (idxs T a i) := by
  cases e : getK ks a with
  | none => rw [h.miss a e]; exact .nil
  | some v => exact (h.lst _ (getK_mem e)).1
theorem Grp.move (h : Grp H L T i ks) (hs : ∀ (j : Nat) cs, L[j]? = some (some (ABlk.cells cs 1 true false)) → L'[j]? = some (some (ABlk.cells cs 1 true false))) : Grp H L' T i ks :=
  ⟨fun p hp => ⟨(h.lst p hp).1.move fun _ j hj => hs j _ hj, (h.lst p hp).2⟩, h.nd, h.miss⟩
theorem Grp.put (h : Grp H L T i ks) (hi : i < T.length) {v : Value} (hv : Lst H L' 1 i1 0 v (idxs T (figL T[i]) i ++ [(i : Int)]))
    (hs : ∀ (j : Nat) cs, L[j]? = some (some (ABlk.cells cs 1 true false)) → (idxs T (figL T[i]) i ≠ [] → cs ≠ (idxs T (figL T[i]) i).flatMap i1) → L'[j]? = some (some (ABlk.cells cs 1 true false))) : Grp H L' T (i + 1) (putK ks (figL T[i]) v) := by
  refine ⟨fun p hp => ?_, putK_nodup h.nd, fun a ha => ?_⟩
  · rcases putK_mem h.nd hp with rfl | ⟨h1, h2⟩
    · simp only
      rw [idxs_succ hi, if_pos rfl]
      exact ⟨hv, by simp⟩
    · rw [idxs_succ hi, if_neg (fun e => h2 e.symm)]
      obtain ⟨q1, q2⟩ := h.lst p h1
      refine ⟨q1.move fun _ j hj => hs j _ hj fun _ e => ?_, q2⟩
      exact idxs_ne h2 q2 (i1_inj e)
  · rw [getK_put] at ha
    by_cases e : figL T[i] = a
    · rw [if_pos e] at ha; cases ha
    · rw [if_neg e] at ha
      rw [idxs_succ hi, if_neg e]
      exact h.miss a ha
theorem Grp.key (h : Grp H L T i ks) {k : Nat} (hk : k < i) (hi : i ≤ T.length) : ∃ j, ∃ hj : j < ks.length, (k : Int) ∈ idxs T ks[j].1 i := by
  have hkT : k < T.length := by omega
  have hm : (k : Int) ∈ idxs T (figL T[k]) i := mem_idxs.2 ⟨k, hk, rfl, by rw [List.getElem?_eq_getElem hkT]; rfl⟩
  cases e : getK ks (figL T[k]) with
  | none => rw [h.miss _ e] at hm; cases hm
  | some v =>
    obtain ⟨j, hj, e2⟩ := List.getElem_of_mem (getK_mem e)
    exact ⟨j, hj, by rw [e2]; exact hm⟩
end
end Go.Proofs.YtfjihdlpohljbaaGreat
/- LeagueCounts: the contract over every input of bulk at most 1048576. -/
noncomputable section
namespace Go.Proofs.YtfjihdlpohljbaaGreat
open Go Go.Den Go.ChangeShapes Go.WideShapes Go.ChangeAt Go.RowKit Go.Deep
set_option maxRecDepth 10000

noncomputable instance : Inhabited Ma := ⟨⟨0, 0, 0, 0, ByteArray.empty⟩⟩
theorem undTx : Tryz.prog.underlying 9 = some .string := rfl
theorem cellsTx : Tryz.prog.cellsOf 9 = 1 := by decide +kernel
theorem bulk_part {H : Type} {d : DataW H} {l : List (DataW H)} (h : d ∈ l) : Rows.uptoBulk d ≤ Rows.uptoBulkAll l := by
  induction l with
  | nil => cases h
  | cons x r ih =>
    simp only [Rows.uptoBulkAll]
    rcases List.mem_cons.1 h with e | e
    · subst e; omega
    · have := ih e; omega
theorem bulk_one {H : Type} (d : DataW H) : 1 ≤ Rows.uptoBulk d := by
  cases d with
  | lit l => cases l <;> simp [Rows.uptoBulk]
  | nil => simp [Rows.uptoBulk]
  | ptr d => simp [Rows.uptoBulk]
  | slice elems spare => simp [Rows.uptoBulk]
  | agg parts => simp [Rows.uptoBulk]
  | iface t d => simp [Rows.uptoBulk]
  | map entries => simp [Rows.uptoBulk]
  | held h => simp [Rows.uptoBulk]
theorem bulk_len {H : Type} (l : List (DataW H)) : l.length ≤ Rows.uptoBulkAll l := by
  induction l with
  | nil => simp [Rows.uptoBulkAll]
  | cons x r ih => have := bulk_one x; simp only [Rows.uptoBulkAll, List.length_cons]; omega
theorem bulk_slice {H : Type} (d : DataW H) : Go.Joins.sliceLen d ≤ Rows.uptoBulk d := by
  cases d with
  | slice elems spare =>
    have := bulk_len elems
    simp only [Go.Joins.sliceLen, Rows.uptoBulk]; omega
  | _ => simp [Go.Joins.sliceLen]
theorem vr_len {Γ : Ga} {p : Option Addr} {n c : Nat} {v : Value} (h : VR Γ (.slice p n c) v) : ∃ p' c', v = .slice p' n c' := by
  cases h <;> exact ⟨_, _, rfl⟩
section
variable {H : Type} {enc : TypeId × Value → H} {W : World} {sp : Nat → Bool} {hd : Bool} {fuel : Nat}
end

end Go.Proofs.YtfjihdlpohljbaaGreat
/- HallPrices: the contract over every input of bulk at most 1048576. -/
noncomputable section
namespace Go.Proofs.YtfjihdlpohljbaaGreat
open Go Go.Den Go.ChangeShapes Go.WideShapes Go.ChangeAt Go.RowKit Go.Deep
set_option maxRecDepth 10000

theorem slice_bulk {H : Type} {enc : TypeId × Value → H} {W : World} {sp : Nat → Bool} {hd : Bool} {fuel : Nat} {t e : TypeId} {p : Option Addr} {k c : Nat} {x : DataW H × List MemPlace} (hu : Tryz.prog.underlying t = some (.slice e)) (h : DataW.trod enc Tryz.prog W 0 sp hd fuel t [.slice p k c] = some x) : k ≤ Rows.uptoBulk x.1 := by
  have q1 := Go.Joins.sliceLen_trod (d := x.1) (ps := x.2) hu h
  have q2 := bulk_slice x.1
  omega
end Go.Proofs.YtfjihdlpohljbaaGreat
/- LeaguePromotions: the plain functions. -/
noncomputable section
namespace Go.Proofs.YtfjihdlpohljbaaGreat
open Go Go.Den
set_option maxRecDepth 100000

def alphaI (c : Int) : Bool := (decide (c ≥ 97) && decide (c ≤ 122)) || (decide (c ≥ 65) && decide (c ≤ 90))
def nameC (i : Nat) (c : Int) : Bool := alphaI c || (decide (i ≠ 0) && ((decide (c ≥ 48) && decide (c ≤ 57)) || c == 95))
def nameB (s : ByteArray) : Bool := (decide (1 ≤ s.size) && decide (s.size ≤ 24)) && (List.range s.size).all fun i => nameC i (byteI s i)
theorem nameB_bad {s : ByteArray} {i : Nat} (hi : i < s.size) (h : nameC i (byteI s i) = false) : nameB s = false := by
  unfold nameB
  have : ((List.range s.size).all fun i => nameC i (byteI s i)) = false := by
    rw [List.all_eq_false]
    exact ⟨i, List.mem_range.2 hi, by rw [h]; simp⟩
  rw [this, Bool.and_false]
theorem nameB_all {s : ByteArray} (h : ∀ i, i < s.size → nameC i (byteI s i) = true) : nameB s = (decide (1 ≤ s.size) && decide (s.size ≤ 24)) := by
  unfold nameB
  have : ((List.range s.size).all fun i => nameC i (byteI s i)) = true := by
    rw [List.all_eq_true]
    exact fun i hi => h i (List.mem_range.1 hi)
  rw [this, Bool.and_true]
theorem nameC_high {i : Nat} {c : Int} (h : 128 ≤ c) : nameC i c = false := by
  have h1 : decide (c ≤ 122) = false := by simp; omega
  have h2 : decide (c ≤ 90) = false := by simp; omega
  have h3 : decide (c ≤ 57) = false := by simp; omega
  have h4 : (c == 95) = false := by simp; omega
  simp [nameC, alphaI, h1, h2, h3, h4]

end Go.Proofs.YtfjihdlpohljbaaGreat
