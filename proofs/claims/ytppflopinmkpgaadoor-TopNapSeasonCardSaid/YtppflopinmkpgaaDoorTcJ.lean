/- Structs of numbers: they are compared, they are keys. -/
import Derived.Test.YtppflopinmkpgaaDoorStA
import Derived.Test.YtppflopinmkpgaaDoorFxB
import Derived.Test.YtppflopinmkpgaaDoorTcI
import Derived.Test.YtppflopinmkpgaaDoorSxX
import Derived.Test.YtppflopinmkpgaaDoorElA
noncomputable section
namespace Go.Proofs.YtppflopinmkpgaaDoor
open Go Go.Den
set_option maxRecDepth 100000

/-- a struct of n numbers -/
def intsB (P : Program) (t : TypeId) (n : Nat) : Bool := match tyOf P t with
  | some ti => match ti.und with
    | .struct fs => Nat.beq fs.toList.length n && fs.toList.zipIdx.all fun p => !(p.1.name == "_") && (Nat.beq p.1.type 3 && Nat.beq p.1.offset p.2)
    | _ => false
  | none => false
theorem intsB_out {P : Program} {t : TypeId} {n : Nat} (h : intsB P t n = true) : ∃ ti fs, (ctxOf P).ty.get t = some ti ∧ ti.und = .struct fs ∧ fs.toList.length = n ∧ ∀ k (h : k < fs.toList.length), (fs.toList[k].name == "_") = false ∧ fs.toList[k].type = 3 ∧ fs.toList[k].offset = 0 + k := by
  unfold intsB at h
  split at h
  · rename_i ti hti
    split at h
    · rename_i fs hfs
      rw [Bool.and_eq_true] at h
      refine ⟨ti, fs, ctx_ty hti, hfs, Nat.eq_of_beq_eq_true h.1, fun k hk => ?_⟩
      have := List.all_eq_true.1 h.2 (fs.toList[k], k) (by
        rw [List.mem_iff_getElem]
        refine ⟨k, by simpa using hk, by simp⟩)
      simp only [Bool.and_eq_true, Bool.not_eq_true'] at this
      refine ⟨this.1, Nat.eq_of_beq_eq_true this.2.1, ?_⟩
      rw [Nat.zero_add]
      exact Nat.eq_of_beq_eq_true this.2.2
    · cases h
  · cases h
section
variable {C : Ctx} {xs ys : List Int} {fi : TI}
theorem partA_ints (h2 : isAggD fi.und = false) {k : Nat} (hk : k < xs.length) : partA fi (xs.map I) k = some (I xs[k]) := by
  simp [partA, h2, hk]
theorem eqFs_ints {rec : TypeId → Value → Value → Option Bool} (hrec : ∀ a b : Int, rec 3 (I a) (I b) = some (a == b)) (h1 : C.ty.get 3 = some fi) (h2 : isAggD fi.und = false) : ∀ (fs : List Field) (o : Nat),
    (∀ k (h : k < fs.length), (fs[k].name == "_") = false ∧ fs[k].type = 3 ∧ fs[k].offset = o + k) → o + fs.length = xs.length → o + fs.length = ys.length → eqFs C rec (xs.map I) (ys.map I) fs = some (decide (xs.drop o = ys.drop o))
  | [], o, _, e1, e2 => by
    rw [List.drop_of_length_le (by simp at e1; omega), List.drop_of_length_le (by simp at e2; omega)]
    simp [eqFs]
  | f :: fs, o, h, e1, e2 => by
    obtain ⟨n0, t0, o0⟩ := h 0 (by simp)
    simp only [List.getElem_cons_zero] at n0 t0 o0
    have l1 : o < xs.length := by simp at e1; omega
    have l2 : o < ys.length := by simp at e2; omega
    have ih := eqFs_ints hrec h1 h2 fs (o + 1) (fun k hk => by
      have := h (k + 1) (by simpa using hk)
      simp only [List.getElem_cons_succ] at this
      exact ⟨this.1, this.2.1, by omega⟩) (by simp at e1; omega) (by simp at e2; omega)
    simp only [eqFs, n0, t0, o0, h1, Nat.add_zero, Bool.false_eq_true, if_false, partA_ints h2 l1, partA_ints h2 l2, hrec]
    rw [List.drop_eq_getElem_cons l1, List.drop_eq_getElem_cons l2]
    by_cases e : xs[o] = ys[o]
    · simp only [e, beq_self_eq_true, ih, List.cons.injEq, true_and]
    · have : (xs[o] == ys[o]) = false := by simpa using e
      simp only [this, List.cons.injEq, e, false_and, decide_false]
theorem chkFs_ints {rec : TypeId → Value → Bool} (hrec : ∀ a : Int, rec 3 (I a) = true) (h1 : C.ty.get 3 = some fi) (h2 : isAggD fi.und = false) : ∀ (fs : List Field) (o : Nat),
    (∀ k (h : k < fs.length), (fs[k].name == "_") = false ∧ fs[k].type = 3 ∧ fs[k].offset = o + k) → o + fs.length = xs.length → chkFs C rec (xs.map I) fs = true
  | [], o, _, _ => rfl
  | f :: fs, o, h, e1 => by
    obtain ⟨n0, t0, o0⟩ := h 0 (by simp)
    simp only [List.getElem_cons_zero] at n0 t0 o0
    have l1 : o < xs.length := by simp at e1; omega
    have ih := chkFs_ints hrec h1 h2 fs (o + 1) (fun k hk => by
      have := h (k + 1) (by simpa using hk)
      simp only [List.getElem_cons_succ] at this
      exact ⟨this.1, this.2.1, by omega⟩) (by simp at e1; omega)
    simp only [chkFs, n0, t0, o0, h1, Nat.add_zero, Bool.false_eq_true, if_false, partA_ints h2 l1, hrec, ih, Bool.and_self]
theorem flat_ints2 : (xs.map I).all flatC = true := by
  rw [List.all_eq_true]
  intro v hv
  obtain ⟨y, _, rfl⟩ := List.mem_map.1 hv
  rfl
theorem eqFlats_self : eqFlats (xs.map I) (xs.map I) = some true := by
  induction xs with
  | nil => rfl
  | cons a r ih => simp [eqFlats, eqFlat, ih]
end
section
variable {t : TypeId} {n : Nat} {xs ys : List Int}
theorem eqV_ints (h : intsB Tryd.prog t n = true) (hs : Tryd.prog.stoodInHeld t = false) (e1 : xs.length = n) (e2 : ys.length = n) : eqV Tryd.prog (ctxOf Tryd.prog) 20 t (.agg ⟨xs.map I⟩) (.agg ⟨ys.map I⟩) = some (decide (xs = ys)) := by
  obtain ⟨ti, fs, h1, h2, h3, h4⟩ := intsB_out h
  obtain ⟨ei, k1, k2, k3, k4⟩ := tyI
  have one : ∀ a b : Int, eqV Tryd.prog (ctxOf Tryd.prog) 19 3 (I a) (I b) = some (a == b) := by
    intro a b
    simp only [eqV, k1, k2]; simp
  rw [eqV]
  simp only [h1, h2, hs, Bool.false_eq_true, if_false]
  have := eqFs_ints (C := ctxOf Tryd.prog) (xs := xs) (ys := ys) (fi := ei) one k1 k4 fs.toList 0 h4 (by omega) (by omega)
  rw [List.drop_zero, List.drop_zero] at this
  exact this
theorem keyInts {α : Type} [DecidableEq α] {f : α → List Int} (h : intsB Tryd.prog t n = true) (hs : Tryd.prog.stoodInHeld t = false) (hf : ∀ a, (f a).length = n) (hi : ∀ a b, f a = f b → a = b) : KeyOk Tryd.prog t (fun a => .agg ⟨(f a).map I⟩) := by
  obtain ⟨ti, fs, h1, h2, h3, h4⟩ := intsB_out h
  obtain ⟨ei, k1, k2, k3, k4⟩ := tyI
  have hflat : ∀ a, (Value.agg ⟨(f a).map I⟩).cells.toList.all flatC = true := fun a => by
    simp only [Value.cells]; exact flat_ints2
  refine ⟨fun a => ?_, hflat, fun a b => ?_, fun a => ?_⟩
  · unfold keyOk
    rw [hflat, Bool.true_and, chkV]
    simp only [h1, h2]
    refine chkFs_ints (C := ctxOf Tryd.prog) (fi := ei) (fun a => ?_) k1 k4 fs.toList 0 h4 (by rw [hf]; omega)
    simp only [chkV, k1, k2]
  · rw [eqV_ints h hs (hf a) (hf b)]
    congr 1
    rw [decide_eq_decide]
    exact ⟨hi a b, fun e => by rw [e]⟩
  · simp only [sameKey, eqFlats_self]; rfl
end
end Go.Proofs.YtppflopinmkpgaaDoor
/- Groups of teams with the same figures: the map of lists, small contracts. -/
noncomputable section
namespace Go.Proofs.YtppflopinmkpgaaDoor
open Go Go.Den
set_option maxRecDepth 100000

abbrev fgV (a : Fg) : Value := .agg ⟨fg a⟩
theorem keyFg : KeyOk Tryd.prog 77 fgV :=
  keyInts (f := fun a : Fg => [a.1, a.2.1, a.2.2]) (n := 3) (by decide +kernel) (by decide +kernel) (fun _ => rfl) (fun a b e => by
    obtain ⟨a1, a2, a3⟩ := a
    obtain ⟨b1, b2, b3⟩ := b
    simp only [List.cons.injEq, and_true] at e
    obtain ⟨rfl, rfl, rfl⟩ := e
    rfl)
theorem zeroSl : zeroOf Tryd.prog 40 = some (.slice none 0 0) := rfl
theorem mkFigs {l : EL} {h : AHeap} {a : Operand} {n : Nat} (ha : ev l a = some (I n)) (hn : n ≤ 24) : Does Tryd.prog l (.makeSlice 79 a a) h (.slice (some ⟨h.fresh, 0, none⟩) n n) (h.add (fgB (List.replicate n (0, 0, 0)))) := by
  have e : (List.replicate n ((0, 0, 0) : Fg)).flatMap fg = repl (fg (0, 0, 0)) n := by rw [← repl_flatR]
  rw [fgB, e]
  exact do_makeSlice ha ha rfl rfl rfl rfl (Nat.le_refl _) (by omega) (Nat.le_trans (Nat.mul_le_mul_left _ hn) (Nat.le_of_ble_eq_true rfl))
theorem inTeams_c {H : AHeap} {k : Int} {bv z c : Nat} {s ro : Bool} {p : Option Addr} {l : List Int} (hv : H.get bv = some (.cells [.slice p l.length c] z s ro)) (hs : SlAt H 1 i1 p l) (hn : l.length < 1000000000) :
    Ret Tryd.prog 25 [I k, .pointer (some ⟨bv, 0, none⟩)] H (.bool (l.any fun x => k == x)) H := by
  refine fn_start Tryd.func25 rfl rfl rfl fun hc => ?_
  apply ct_seq
  apply ct_region
  apply seq_plain; exact do_assign rfl; exact rfl
  apply seq_nil
  apply ct_seq
  apply ct_region
  apply seq_plain; exact do_load rfl (by exact ext_get_old (by assumption) (by assumption)) rfl (by exact rfl); exact rfl
  apply seq_plain; exact do_move rfl; exact rfl
  apply seq_call (ht := rfl); exact contains_c (l := l) (hs.ext (ext_Ext hc)) (by omega); exact rfl
  apply seq_plain; exact do_assign rfl; exact rfl
  apply seq_nil
  apply ct_ret
  exact fin_flat hc rfl rfl ⟨rfl, rfl⟩

section
variable {α β : Type} [DecidableEq α]
theorem getK_mem {ks : List (α × β)} {a : α} {v : β} (h : getK ks a = some v) : (a, v) ∈ ks := by
  unfold getK at h
  cases hf : ks.find? fun p => decide (p.1 = a) with
  | none => rw [hf] at h; cases h
  | some p =>
    rw [hf] at h
    simp only [Option.map_some, Option.some.injEq] at h
    have h1 := List.find?_some hf
    have h2 := List.mem_of_find?_eq_some hf
    have h1 : p.1 = a := by simpa using h1
    subst h; subst h1
    exact h2
theorem putK_mem {ks : List (α × β)} {a : α} {v : β} {p : α × β} (hnd : (ks.map (·.1)).Nodup) (h : p ∈ putK ks a v) : p = (a, v) ∨ (p ∈ ks ∧ p.1 ≠ a) := by
  induction ks with
  | nil => simp only [putK, List.mem_singleton] at h; exact .inl h
  | cons x r ih =>
    rw [List.map_cons, List.nodup_cons] at hnd
    simp only [putK] at h
    by_cases e : x.1 = a
    · rw [if_pos e] at h
      rcases List.mem_cons.1 h with h | h
      · exact .inl h
      · refine .inr ⟨List.mem_cons_of_mem _ h, fun e2 => hnd.1 ?_⟩
        rw [e, ← e2]
        exact List.mem_map.2 ⟨p, h, rfl⟩
    · rw [if_neg e] at h
      rcases List.mem_cons.1 h with h | h
      · subst h
        exact .inr ⟨List.mem_cons_self .., e⟩
      · rcases ih hnd.2 h with h | ⟨h1, h2⟩
        · exact .inl h
        · exact .inr ⟨List.mem_cons_of_mem _ h1, h2⟩
theorem putK_nodup {ks : List (α × β)} {a : α} {v : β} (hnd : (ks.map (·.1)).Nodup) : ((putK ks a v).map (·.1)).Nodup := by
  rw [putK_keys]
  unfold addK
  split
  · exact hnd
  · rename_i h
    rw [List.nodup_append]
    refine ⟨hnd, by simp, fun x hx y hy e => h ?_⟩
    rw [List.mem_singleton] at hy
    rw [← hy, ← e]; exact hx
end
theorem i1_inj : ∀ {l m : List Int}, l.flatMap i1 = m.flatMap i1 → l = m
  | [], [], _ => rfl
  | [], _ :: _, h => by simp [i1] at h
  | _ :: _, [], h => by simp [i1] at h
  | a :: r, b :: s, h => by
    have h2 : I a :: r.flatMap i1 = I b :: s.flatMap i1 := h
    simp only [List.cons.injEq, Value.int.injEq, true_and] at h2
    rw [h2.1, i1_inj h2.2]
/-- the map of the teams with the same figures, of the rows before i -/
structure Grp (H : AHeap) (L : List (Option ABlk)) (T : List Rw) (i : Nat) (ks : List (Fg × Value)) : Prop where
  lst : ∀ p ∈ ks, Lst H L 1 i1 0 p.2 (idxs T p.1 i) ∧ idxs T p.1 i ≠ []
  nd : (ks.map (·.1)).Nodup
  miss : ∀ a, getK ks a = none → idxs T a i = []
section
variable {H : AHeap} {L L' : List (Option ABlk)} {T : List Rw} {i : Nat} {ks : List (Fg × Value)}
theorem Grp.zero : Grp H L T 0 [] := ⟨fun _ h => (by cases h), List.Pairwise.nil, fun _ _ => rfl⟩
theorem Grp.get (h : Grp H L T i ks) (a : Fg) : Lst H L 1 i1 0 ((getK ks a).elim (.slice none 0 0) id) (idxs T a i) := by
  cases e : getK ks a with
  | none => rw [h.miss a e]; exact .nil
  | some v => exact (h.lst _ (getK_mem e)).1
theorem Grp.move (h : Grp H L T i ks) (hs : ∀ (j : Nat) cs, L[j]? = some (some (ABlk.cells cs 1 true false)) → L'[j]? = some (some (ABlk.cells cs 1 true false))) : Grp H L' T i ks :=
  ⟨fun p hp => ⟨(h.lst p hp).1.move fun _ j hj => hs j _ hj, (h.lst p hp).2⟩, h.nd, h.miss⟩
theorem Grp.put (h : Grp H L T i ks) (hi : i < T.length) {v : Value} (hv : Lst H L' 1 i1 0 v (idxs T (figL T[i]) i ++ [(i : Int)]))
    (hs : ∀ (j : Nat) cs, L[j]? = some (some (ABlk.cells cs 1 true false)) → (idxs T (figL T[i]) i ≠ [] → cs ≠ (idxs T (figL T[i]) i).flatMap i1) → L'[j]? = some (some (ABlk.cells cs 1 true false))) : Grp H L' T (i + 1) (putK ks (figL T[i]) v) := by
  refine ⟨fun p hp => ?_, putK_nodup h.nd, fun a ha => ?_⟩
  · rcases putK_mem h.nd hp with rfl | ⟨h1, h2⟩
    · simp only
      rw [idxs_succ hi, if_pos rfl]
      exact ⟨hv, by simp⟩
    · rw [idxs_succ hi, if_neg (fun e => h2 e.symm)]
      obtain ⟨q1, q2⟩ := h.lst p h1
      refine ⟨q1.move fun _ j hj => hs j _ hj fun _ e => ?_, q2⟩
      exact idxs_ne h2 q2 (i1_inj e)
  · rw [getK_put] at ha
    by_cases e : figL T[i] = a
    · rw [if_pos e] at ha; cases ha
    · rw [if_neg e] at ha
      rw [idxs_succ hi, if_neg e]
      exact h.miss a ha
theorem Grp.key (h : Grp H L T i ks) {k : Nat} (hk : k < i) (hi : i ≤ T.length) : ∃ j, ∃ hj : j < ks.length, (k : Int) ∈ idxs T ks[j].1 i := by
  have hkT : k < T.length := by omega
  have hm : (k : Int) ∈ idxs T (figL T[k]) i := mem_idxs.2 ⟨k, hk, rfl, by rw [List.getElem?_eq_getElem hkT]; rfl⟩
  cases e : getK ks (figL T[k]) with
  | none => rw [h.miss _ e] at hm; cases hm
  | some v =>
    obtain ⟨j, hj, e2⟩ := List.getElem_of_mem (getK_mem e)
    exact ⟨j, hj, by rw [e2]; exact hm⟩
end
end Go.Proofs.YtppflopinmkpgaaDoor
