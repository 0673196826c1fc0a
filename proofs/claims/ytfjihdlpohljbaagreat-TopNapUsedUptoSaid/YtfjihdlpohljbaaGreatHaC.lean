/- The symbolic layer: ranges over maps that stay as they are. -/
import Derived.Test.YtfjihdlpohljbaaGreatSxU
import Derived.Test.YtfjihdlpohljbaaGreatHaB
noncomputable section
namespace Go.Den
section
variable {P : Program} {rd : Option Nat} {nt : Nat} {ops : Array Oper} {l : EL} {ds : List Nat} {h : AHeap} {K : St → Prop} {i : Nat} {r : List Oper} {ty : TypeId} {pos : String} {af : Array Edge}

/-- an operation with several ends -/
theorem seq_plainM [PC P] {d : Nat} {op : Op} {outs : List (Value × AHeap)} (hop : opA P (ctxOf P) (ofA l) op h = some outs) (hd : Nat.blt d nt = true)
    (hk : ∀ u ∈ outs, SeqL P rd nt ops r (i + 1) ⟨ofA ((d, u.1) :: l), ds, u.2⟩ K) : SeqL P rd nt ops (⟨some d, op, ty, pos, af, none⟩ :: r) i ⟨ofA l, ds, h⟩ K := by
  refine ⟨fun ho => ?_⟩
  refine opT_plain PC.ok ho (s := ⟨ofA l, ds, h⟩) rfl hop fun u H' hm => ?_
  refine ⟨ofA ((d, u) :: l), ?_, (hk (u, H') hm).out⟩
  simp only [putDst]
  rw [Nat.blt_eq] at hd
  rw [if_pos hd]; rfl

/-- the entries of a map: keys, values, by their numbers -/
def pairEs {α β : Type} (f : α → Value) (g : β → Value) : List (α × β) → Nat → List MapEntry
  | [], _ => []
  | a :: r, i => { key := f a.1, val := g a.2, born := i } :: pairEs f g r (i + 1)
def pairM {α β : Type} (f : α → Value) (g : β → Value) (ks : List (α × β)) : ABlk := .map (pairEs f g ks 0) ks.length false
section
variable {α β : Type} {f : α → Value} {g : β → Value}
theorem pairEs_mem {e : MapEntry} : ∀ {ks : List (α × β)} {i : Nat}, e ∈ pairEs f g ks i → ∃ j, ∃ h : j < ks.length, e = { key := f ks[j].1, val := g ks[j].2, born := i + j }
  | [], i, h => by cases h
  | a :: r, i, h => by
    rcases List.mem_cons.1 h with rfl | h
    · exact ⟨0, by simp, rfl⟩
    · obtain ⟨j, hj, e⟩ := pairEs_mem h
      refine ⟨j + 1, by simpa using hj, ?_⟩
      rw [e]
      simp; omega
theorem pairEs_at : ∀ {ks : List (α × β)} {i j : Nat} (h : j < ks.length), { key := f ks[j].1, val := g ks[j].2, born := i + j } ∈ pairEs f g ks i
  | [], _, j, h => by simp at h
  | a :: r, i, 0, _ => List.mem_cons_self ..
  | a :: r, i, j + 1, h => by
    have := pairEs_at (ks := r) (i := i + 1) (j := j) (by simpa using h)
    have e : i + (j + 1) = i + 1 + j := by omega
    rw [e]
    exact List.mem_cons_of_mem _ this
end

def mapOf (P : Program) (t : TypeId) : Bool := match tyOf P t with
  | some ti => match ti.und with
    | .map _ _ => true
    | _ => false
  | none => false
/-- a range over a map begins -/
theorem do_rangeMap {t : TypeId} {x : Operand} {m c : Nat} {es : List MapEntry} {b : Bool} (hx : ev l x = some (.map (some m))) (ht : mapOf P t = true) (hm : h.get m = some (.map es c b)) : Does P l (.range t x) h (.pointer (some ⟨h.fresh, 0, none⟩)) (h.add (.miter (some m) c [] c)) := by
  unfold mapOf at ht
  split at ht
  · rename_i ti hti
    split at ht
    · rename_i k e hu
      refine ⟨?_⟩
      simp only [opA, evalA_ofA, hx, rangeA, ctx_ty hti, hu, hm]; rfl
    · cases ht
  · cases ht
/-- the next entry: any that was not seen, or the end -/
theorem next_outs {α β : Type} {f : α → Value} {g : β → Value} {ks : List (α × β)} {it : Operand} {rr m : Nat} {seen : List Nat} {b : Bool} (hi : ev l it = some (.pointer (some ⟨rr, 0, none⟩))) (hr : h.get rr = some (.miter (some m) ks.length seen ks.length)) (hm : h.get m = some (.map (pairEs f g ks 0) ks.length b)) (ho : own rr = true) :
    ∃ outs, opA P (ctxOf P) (ofA l) (.next it false) h = some outs ∧ ∀ u ∈ outs, (u = (.tuple #[.bool false], h) ∧ ∀ j, j < ks.length → j ∈ seen) ∨ ∃ j, ∃ hj : j < ks.length, j ∉ seen ∧ u = (.tuple #[.bool true, f ks[j].1, g ks[j].2], h.put rr (.miter (some m) ks.length (seen ++ [j]) ks.length)) := by
  have hall : (!seen.isEmpty && !(pairEs f g ks 0).isEmpty && (pairEs f g ks 0).all (fun e => decide (e.born ≥ ks.length))) = false := by
    cases hk : pairEs f g ks 0 with
    | nil => simp
    | cons e r =>
      obtain ⟨j, hj, he⟩ := pairEs_mem (f := f) (g := g) (ks := ks) (i := 0) (e := e) (by rw [hk]; exact List.mem_cons_self ..)
      have : e.born = 0 + j := by rw [he]
      have hd : decide (e.born ≥ ks.length) = false := by simp; omega
      simp [hd]
  refine ⟨_, by simp only [opA, evalA_ofA, hi, nextA, hr, hm, ho, hall]; simp only [Bool.not_true, Bool.false_or, Bool.false_eq_true, if_false]; rfl, fun u hu => ?_⟩
  rcases List.mem_append.1 hu with hu | hu
  · split at hu
    · rename_i he
      rw [List.mem_singleton] at hu
      refine .inl ⟨hu, fun j hj => ?_⟩
      by_cases hs : j ∈ seen
      · exact hs
      · exfalso
        have hmem := pairEs_at (f := f) (g := g) (ks := ks) (i := 0) hj
        have h1 : { key := f ks[j].1, val := g ks[j].2, born := 0 + j } ∈ ((pairEs f g ks 0).filter fun e => !seen.contains e.born).filter fun e => decide (e.born < ks.length) := by
          rw [List.mem_filter, List.mem_filter]
          refine ⟨⟨hmem, ?_⟩, ?_⟩
          · simp [hs]
          · simp [hj]
        rw [List.isEmpty_iff] at he
        rw [he] at h1; cases h1
    · cases hu
  · obtain ⟨e, he, rfl⟩ := List.mem_map.1 hu
    have he2 : e ∈ pairEs f g ks 0 ∧ e.born ∉ seen := by
      rcases List.mem_append.1 he with he | he
      all_goals
        have h1 := (List.mem_filter.1 he).1
        have h2 := List.mem_filter.1 h1
        exact ⟨h2.1, by simpa using h2.2⟩
    obtain ⟨j, hj, e1⟩ := pairEs_mem he2.1
    have hb : e.born = j := by rw [e1]; simp
    refine .inr ⟨j, hj, by rw [← hb]; exact he2.2, ?_⟩
    rw [hb]
    rw [e1]
theorem seq_nextMap [PC P] {α β : Type} {f : α → Value} {g : β → Value} {ks : List (α × β)} {d : Nat} {it : Operand} {rr m : Nat} {seen : List Nat} {b : Bool} (hi : ev l it = some (.pointer (some ⟨rr, 0, none⟩))) (hr : h.get rr = some (.miter (some m) ks.length seen ks.length)) (hm : h.get m = some (.map (pairEs f g ks 0) ks.length b)) (ho : own rr = true) (hd : Nat.blt d nt = true)
    (h1 : (∀ j, j < ks.length → j ∈ seen) → SeqL P rd nt ops r (i + 1) ⟨ofA ((d, .tuple #[.bool false]) :: l), ds, h⟩ K)
    (h2 : ∀ j (hj : j < ks.length), j ∉ seen → SeqL P rd nt ops r (i + 1) ⟨ofA ((d, .tuple #[.bool true, f ks[j].1, g ks[j].2]) :: l), ds, h.put rr (.miter (some m) ks.length (seen ++ [j]) ks.length)⟩ K) :
    SeqL P rd nt ops (⟨some d, .next it false, ty, pos, af, none⟩ :: r) i ⟨ofA l, ds, h⟩ K := by
  obtain ⟨outs, e1, e2⟩ := next_outs (P := P) (f := f) (g := g) hi hr hm ho
  refine seq_plainM e1 hd fun u hu => ?_
  rcases e2 u hu with ⟨rfl, h⟩ | ⟨j, hj, hs, rfl⟩
  · exact h1 h
  · exact h2 j hj hs
/-- the entry that was come to -/
theorem do_entry {α β : Type} {f : α → Value} {g : β → Value} {ks : List (α × β)} {it : Operand} {rr m j : Nat} {seen : List Nat} {b : Bool} (hi : ev l it = some (.pointer (some ⟨rr, 0, none⟩))) (hr : h.get rr = some (.miter (some m) ks.length (seen ++ [j]) ks.length)) (hm : h.get m = some (.map (pairEs f g ks 0) ks.length b)) (hj : j < ks.length) :
    Does P l (.entry it) h (.tuple #[f ks[j].1, g ks[j].2]) h := by
  have hf : ∀ (ks : List (α × β)) (i j : Nat) (h : j < ks.length), (pairEs f g ks i).find? (fun e => e.born == i + j) = some { key := f ks[j].1, val := g ks[j].2, born := i + j } := by
    intro ks
    induction ks with
    | nil => intro i j h; simp at h
    | cons a r ih =>
      intro i j h
      cases j with
      | zero => simp [pairEs]
      | succ j =>
        have := ih (i + 1) j (by simpa using h)
        have e : i + (j + 1) = i + 1 + j := by omega
        rw [e]
        simp only [pairEs, List.find?_cons]
        have : (i == i + 1 + j) = false := by simp; omega
        rw [this]
        simpa using ih (i + 1) j (by simpa using h)
  refine ⟨?_⟩
  have hf0 := hf ks 0 j hj
  rw [Nat.zero_add] at hf0
  simp only [opA, evalA_ofA, hi, entryA, hr, hm, List.getLast?_append, List.getLast?_singleton, Option.some_or, bne_self_eq_false, Bool.false_eq_true, if_false, hf0]
  rfl
end

/-! ### maps from keys to values -/
section
variable {P : Program} {α β : Type} [DecidableEq α] {f : α → Value} {g : β → Value} {kt : TypeId} {l : EL} {h : AHeap}
def getK (ks : List (α × β)) (a : α) : Option β := (ks.find? fun p => decide (p.1 = a)).map (·.2)
def putK : List (α × β) → α → β → List (α × β)
  | [], a, v => [(a, v)]
  | p :: r, a, v => if p.1 = a then (a, v) :: r else p :: putK r a v
theorem putK_keys {a : α} {v : β} : ∀ {ks : List (α × β)}, (putK ks a v).map (·.1) = addK (ks.map (·.1)) a
  | [] => rfl
  | p :: r => by
    simp only [putK]
    by_cases h : p.1 = a
    · rw [if_pos h]
      simp [addK, h]
    · rw [if_neg h]
      have ih := putK_keys (a := a) (v := v) (ks := r)
      simp only [List.map_cons, ih, addK]
      by_cases h2 : a ∈ r.map (·.1)
      · rw [if_pos h2, if_pos (List.mem_cons_of_mem _ h2)]
      · rw [if_neg h2, if_neg (by simp only [List.mem_cons]; rintro (e | e); exact h e.symm; exact h2 e)]; rfl
theorem getK_put {a b : α} {v : β} : ∀ {ks : List (α × β)}, getK (putK ks a v) b = if a = b then some v else getK ks b
  | [] => by simp [putK, getK]
  | p :: r => by
    have ih := getK_put (a := a) (b := b) (v := v) (ks := r)
    simp only [putK]
    by_cases h : p.1 = a
    · rw [if_pos h]
      by_cases h2 : a = b
      · subst h2; simp [getK]
      · have h3 : ¬ p.1 = b := fun e => h2 (h.symm.trans e)
        simp [getK, h2, h3]
    · rw [if_neg h]
      by_cases h3 : p.1 = b
      · have h2 : ¬ a = b := fun e => h (h3.trans e.symm)
        simp [getK, h2, h3]
      · simp only [getK, List.find?_cons, h3, decide_false] at ih ⊢
        exact ih
theorem findA_get (hk : KeyOk P kt f) (a : α) : ∀ (ks : List (α × β)) (i j : Nat), (getK ks a = none → findA P (ctxOf P) kt (f a) (pairEs f g ks i) j = some none) ∧ ∀ v, getK ks a = some v → ∃ n b, findA P (ctxOf P) kt (f a) (pairEs f g ks i) j = some (some (j + n, { key := f a, val := g v, born := b })) ∧ ∀ u, modE (pairEs f g ks i) n (fun e => { e with key := f a, val := g u }) = pairEs f g (putK ks a u) i
  | [], i, j => ⟨fun _ => rfl, fun v h => by simp [getK] at h⟩
  | p :: r, i, j => by
    have hfl : (!(f p.1).cells.toList.all flatC) = false := by rw [hk.flat]; rfl
    obtain ⟨i1, i2⟩ := findA_get hk a r (i + 1) (j + 1)
    simp only [pairEs, findA, hfl, Bool.false_eq_true, if_false, hk.eq]
    by_cases e : p.1 = a
    · have e1 : getK (p :: r) a = some p.2 := by simp [getK, e]
      rw [e1]
      refine ⟨fun h => (by cases h), fun v h => ?_⟩
      cases h
      refine ⟨0, i, by simp [e], fun u => ?_⟩
      simp [modE, putK, e, pairEs]
    · have e1 : getK (p :: r) a = getK r a := by simp [getK, e]
      rw [e1, decide_eq_false (fun q => e q.symm)]
      refine ⟨fun h => i1 h, fun v h => ?_⟩
      obtain ⟨n, b, h1, h2⟩ := i2 v h
      refine ⟨n + 1, b, by simp only; rw [h1]; congr 3; omega, fun u => ?_⟩
      simp only [modE, putK, e, if_false, pairEs, h2]
omit [DecidableEq α] in
theorem pairEs_snoc : ∀ {ks : List (α × β)} {i : Nat} {a : α × β}, pairEs f g (ks ++ [a]) i = pairEs f g ks i ++ [{ key := f a.1, val := g a.2, born := i + ks.length }]
  | [], i, a => by simp [pairEs]
  | b :: r, i, a => by
    simp only [List.cons_append, pairEs, pairEs_snoc (ks := r)]
    simp; omega
theorem putK_new {a : α} {v : β} : ∀ {ks : List (α × β)}, getK ks a = none → putK ks a v = ks ++ [(a, v)]
  | [], _ => rfl
  | p :: r, h => by
    by_cases e : p.1 = a
    · simp [getK, e] at h
    · have e1 : getK (p :: r) a = getK r a := by simp [getK, e]
      rw [e1] at h
      simp only [putK, e, if_false, putK_new h, List.cons_append]
theorem putK_len {a : α} {v u : β} : ∀ {ks : List (α × β)}, getK ks a = some u → (putK ks a v).length = ks.length
  | [], h => by simp [getK] at h
  | p :: r, h => by
    by_cases e : p.1 = a
    · simp [putK, e]
    · have e1 : getK (p :: r) a = getK r a := by simp [getK, e]
      rw [e1] at h
      simp [putK, e, putK_len h]
/-- a map is asked -/
theorem do_pairGet {t et : TypeId} {m k : Operand} {r : Nat} {ks : List (α × β)} {a : α} {z v : Value} (hm : ev l m = some (.map (some r))) (hkv : ev l k = some (f a)) (hh : h.get r = some (pairM f g ks)) (ht : mapKE P t = some (kt, et)) (hz : zeroOf P et = some z) (hk : KeyOk P kt f) (hv : v = ((getK ks a).elim z g)) :
    Does P l (.lookup t m k false) h v h := by
  subst hv
  refine ⟨?_⟩
  obtain ⟨i1, i2⟩ := findA_get (g := g) hk a ks 0 0
  have key : lookupA P (ctxOf P) h t (.map (some r)) (f a) false = some ((getK ks a).elim z g) := by
    cases e : getK ks a with
    | none =>
      simp only [lookupA, mapTypes_of ht, entriesOf, hh, pairM, hk.key, if_true, i1 e, zeroV_of hz]; rfl
    | some b =>
      obtain ⟨n, c, h1, _⟩ := i2 b e
      simp only [lookupA, mapTypes_of ht, entriesOf, hh, pairM, hk.key, if_true, h1]; rfl
  simp only [opA, evalA_ofA, hm, hkv, key]; rfl
/-- a key gets a value -/
theorem do_pairPut {t et : TypeId} {m k x : Operand} {r : Nat} {ks : List (α × β)} {a : α} {b : β} (hm : ev l m = some (.map (some r))) (hkv : ev l k = some (f a)) (hx : ev l x = some (g b)) (hh : h.get r = some (pairM f g ks)) (ht : mapKE P t = some (kt, et)) (hk : KeyOk P kt f) (hor : own r = true) :
    Does P l (.mapUpdate t m k x) h undefV (h.put r (pairM f g (putK ks a b))) := by
  obtain ⟨i1, i2⟩ := findA_get (g := g) hk a ks 0 0
  refine ⟨?_⟩
  have key : mapUpdateA P (ctxOf P) h t (.map (some r)) (f a) (g b) = some (h.put r (pairM f g (putK ks a b))) := by
    cases e : getK ks a with
    | none =>
      simp only [mapUpdateA, mapTypes_of ht, hh, pairM, hk.key, hor, Bool.and_self, if_true, i1 e]
      rw [putK_new e, pairEs_snoc]
      simp
    | some v =>
      obtain ⟨n, c, h1, h2⟩ := i2 v e
      simp only [mapUpdateA, mapTypes_of ht, hh, pairM, hk.key, hor, Bool.and_self, if_true, h1, hk.same, Nat.zero_add]
      rw [h2, putK_len e]
  simp only [opA, evalA_ofA, hm, hkv, hx, key]; rfl
end
/-! ### stores, the list behind them told -/
section
variable {P : Program} {rd : Option Nat} {nt : Nat} {ops : Array Oper} {l : EL} {ds : List Nat} {K : St → Prop} {i : Nat} {r : List Oper} {o : Oper} {ty : TypeId} {pos : String} {af : Array Edge} {H : AHeap} {lo : Nat} {L L' : List (Option ABlk)} {Qn : St → Prop} {Qe : Nat → St → Prop} {Qr : St → Prop}
theorem set_mid {α : Type} {p r : List α} {a b : α} {n : Nat} (h : n = p.length) : (p ++ a :: r).set n b = p ++ b :: r := by
  subst h; simp
/-- the next entry; the iterator lies last among the new blocks -/
theorem seq_nextMapE [PC P] {α β : Type} {f : α → Value} {g : β → Value} {ks : List (α × β)} {d : Nat} {it : Operand} {m : Nat} {seen : List Nat} {b : Bool} {M : List (Option ABlk)} (hc : Closed H) (hi : ev l it = some (.pointer (some ⟨nb H M.length, 0, none⟩)))
    (hm : (ext H lo (M ++ [some (.miter (some m) ks.length seen ks.length)])).get m = some (.map (pairEs f g ks 0) ks.length b)) (hd : Nat.blt d nt = true)
    (h1 : (∀ j, j < ks.length → j ∈ seen) → SeqL P rd nt ops (o :: r) (i + 1) ⟨ofA ((d, .tuple #[.bool false]) :: l), ds, ext H lo (M ++ [some (.miter (some m) ks.length seen ks.length)])⟩ K)
    (h2 : ∀ j (hj : j < ks.length), j ∉ seen → SeqL P rd nt ops (o :: r) (i + 1) ⟨ofA ((d, .tuple #[.bool true, f ks[j].1, g ks[j].2]) :: l), ds, ext H lo (M ++ [some (.miter (some m) ks.length (seen ++ [j]) ks.length)])⟩ K) :
    SeqL P rd nt ops (⟨some d, .next it false, ty, pos, af, none⟩ :: o :: r) i ⟨ofA l, ds, ext H lo (M ++ [some (.miter (some m) ks.length seen ks.length)])⟩ K := by
  refine seq_nextMap hi (ext_get_new List.getElem?_concat_length) hm (nb_own _) hd h1 fun j hj hs => ?_
  refine seqL_to sub_refl ?_ (by simp) (h2 j hj hs)
  have q := ext_put (lo := lo) (L := M ++ [some (ABlk.miter (some m) ks.length seen ks.length)]) (k := M.length) hc (by simp) (.miter (some m) ks.length (seen ++ [j]) ks.length)
  rw [set_mid rfl] at q
  exact q
end
section
variable {P : Program} {rd : Option Nat} {nt : Nat} {ops : Array Oper} {ds : List Nat} {l : EL} {H : AHeap} {lo : Nat} {L : List (Option ABlk)} {k i : Nat} {tj lc : List Nat} {K : St → Prop} {r : List Oper} {ty : TypeId} {pos : String} {af : Array Edge}
end
end Go.Den
/- Contracts: lists of ones, run by the evaluator. -/
noncomputable section
namespace Go.Proofs.YtfjihdlpohljbaaGreat
open Go Go.Den
set_option maxRecDepth 100000

theorem blO_ok : blOk [] = true := rfl
theorem gloO {H : AHeap} : Glo (bOf []) H := fun k x h => by cases h
end Go.Proofs.YtfjihdlpohljbaaGreat
