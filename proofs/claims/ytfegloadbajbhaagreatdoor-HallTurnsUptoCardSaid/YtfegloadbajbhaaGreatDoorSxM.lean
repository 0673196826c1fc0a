/- The symbolic layer: ranges over maps that stay as they are. -/
import Derived.Test.YtfegloadbajbhaaGreatDoorStC
noncomputable section
namespace Go.Den
section
variable {P : Program} {rd : Option Nat} {nt : Nat} {ops : Array Oper} {l : EL} {ds : List Nat} {h : AHeap} {K : St → Prop} {i : Nat} {r : List Oper} {ty : TypeId} {pos : String} {af : Array Edge}

/-- the entries of a map: keys, values, by their numbers -/
def pairEs {α β : Type} (f : α → Value) (g : β → Value) : List (α × β) → Nat → List MapEntry
  | [], _ => []
  | a :: r, i => { key := f a.1, val := g a.2, born := i } :: pairEs f g r (i + 1)
def pairM {α β : Type} (f : α → Value) (g : β → Value) (ks : List (α × β)) : ABlk := .map (pairEs f g ks 0) ks.length false
section
variable {α β : Type} {f : α → Value} {g : β → Value}
end

end

/-! ### maps from keys to values -/
section
variable {P : Program} {α β : Type} [DecidableEq α] {f : α → Value} {g : β → Value} {kt : TypeId} {l : EL} {h : AHeap}
def getK (ks : List (α × β)) (a : α) : Option β := (ks.find? fun p => decide (p.1 = a)).map (·.2)
def putK : List (α × β) → α → β → List (α × β)
  | [], a, v => [(a, v)]
  | p :: r, a, v => if p.1 = a then (a, v) :: r else p :: putK r a v
theorem putK_keys {a : α} {v : β} : ∀ {ks : List (α × β)}, (putK ks a v).map (·.1) = addK (ks.map (·.1)) a
  | [] => rfl
  | p :: r => by
    simp only [putK]
    by_cases h : p.1 = a
    · rw [if_pos h]
      simp [addK, h]
    · rw [if_neg h]
      have ih := putK_keys (a := a) (v := v) (ks := r)
      simp only [List.map_cons, ih, addK]
      by_cases h2 : a ∈ r.map (·.1)
      · rw [if_pos h2, if_pos (List.mem_cons_of_mem _ h2)]
      · rw [if_neg h2, if_neg (by simp only [List.mem_cons]; rintro (e | e); exact h e.symm; exact h2 e)]; rfl
theorem getK_put {a b : α} {v : β} : ∀ {ks : List (α × β)}, getK (putK ks a v) b = if a = b then some v else getK ks b
  | [] => by simp [putK, getK]
  | p :: r => by
    have ih := getK_put (a := a) (b := b) (v := v) (ks := r)
    simp only [putK]
    by_cases h : p.1 = a
    · rw [if_pos h]
      by_cases h2 : a = b
      · subst h2; simp [getK]
      · have h3 : ¬ p.1 = b := fun e => h2 (h.symm.trans e)
        simp [getK, h2, h3]
    · rw [if_neg h]
      by_cases h3 : p.1 = b
      · have h2 : ¬ a = b := fun e => h (h3.trans e.symm)
        simp [getK, h2, h3]
      · simp only [getK, List.find?_cons, h3, decide_false] at ih ⊢
        exact ih
theorem findA_get (hk : KeyOk P kt f) (a : α) : ∀ (ks : List (α × β)) (i j : Nat), (getK ks a = none → findA P (ctxOf P) kt (f a) (pairEs f g ks i) j = some none) ∧ ∀ v, getK ks a = some v → ∃ n b, findA P (ctxOf P) kt (f a) (pairEs f g ks i) j = some (some (j + n, { key := f a, val := g v, born := b })) ∧ ∀ u, modE (pairEs f g ks i) n (fun e => { e with key := f a, val := g u }) = pairEs f g (putK ks a u) i
  | [], i, j => ⟨fun _ => rfl, fun v h => by simp [getK] at h⟩
  | p :: r, i, j => by
    have hfl : (!(f p.1).cells.toList.all flatC) = false := by rw [hk.flat]; rfl
    obtain ⟨i1, i2⟩ := findA_get hk a r (i + 1) (j + 1)
    simp only [pairEs, findA, hfl, Bool.false_eq_true, if_false, hk.eq]
    by_cases e : p.1 = a
    · have e1 : getK (p :: r) a = some p.2 := by simp [getK, e]
      rw [e1]
      refine ⟨fun h => (by cases h), fun v h => ?_⟩
      cases h
      refine ⟨0, i, by simp [e], fun u => ?_⟩
      simp [modE, putK, e, pairEs]
    · have e1 : getK (p :: r) a = getK r a := by simp [getK, e]
      rw [e1, decide_eq_false (fun q => e q.symm)]
      refine ⟨fun h => i1 h, fun v h => ?_⟩
      obtain ⟨n, b, h1, h2⟩ := i2 v h
      refine ⟨n + 1, b, by simp only; rw [h1]; congr 3; omega, fun u => ?_⟩
      simp only [modE, putK, e, if_false, pairEs, h2]
omit [DecidableEq α] in
theorem pairEs_snoc : ∀ {ks : List (α × β)} {i : Nat} {a : α × β}, pairEs f g (ks ++ [a]) i = pairEs f g ks i ++ [{ key := f a.1, val := g a.2, born := i + ks.length }]
  | [], i, a => by simp [pairEs]
  | b :: r, i, a => by
    simp only [List.cons_append, pairEs, pairEs_snoc (ks := r)]
    simp; omega
theorem putK_new {a : α} {v : β} : ∀ {ks : List (α × β)}, getK ks a = none → putK ks a v = ks ++ [(a, v)]
  | [], _ => rfl
  | p :: r, h => by
    by_cases e : p.1 = a
    · simp [getK, e] at h
    · have e1 : getK (p :: r) a = getK r a := by simp [getK, e]
      rw [e1] at h
      simp only [putK, e, if_false, putK_new h, List.cons_append]
theorem putK_len {a : α} {v u : β} : ∀ {ks : List (α × β)}, getK ks a = some u → (putK ks a v).length = ks.length
  | [], h => by simp [getK] at h
  | p :: r, h => by
    by_cases e : p.1 = a
    · simp [putK, e]
    · have e1 : getK (p :: r) a = getK r a := by simp [getK, e]
      rw [e1] at h
      simp [putK, e, putK_len h]
/-- a map is asked -/
theorem do_pairGet {t et : TypeId} {m k : Operand} {r : Nat} {ks : List (α × β)} {a : α} {z v : Value} (hm : ev l m = some (.map (some r))) (hkv : ev l k = some (f a)) (hh : h.get r = some (pairM f g ks)) (ht : mapKE P t = some (kt, et)) (hz : zeroOf P et = some z) (hk : KeyOk P kt f) (hv : v = ((getK ks a).elim z g)) :
    Does P l (.lookup t m k false) h v h := by
  subst hv
  refine ⟨?_⟩
  obtain ⟨i1, i2⟩ := findA_get (g := g) hk a ks 0 0
  have key : lookupA P (ctxOf P) h t (.map (some r)) (f a) false = some ((getK ks a).elim z g) := by
    cases e : getK ks a with
    | none =>
      simp only [lookupA, mapTypes_of ht, entriesOf, hh, pairM, hk.key, if_true, i1 e, zeroV_of hz]; rfl
    | some b =>
      obtain ⟨n, c, h1, _⟩ := i2 b e
      simp only [lookupA, mapTypes_of ht, entriesOf, hh, pairM, hk.key, if_true, h1]; rfl
  simp only [opA, evalA_ofA, hm, hkv, key]; rfl
/-- a key gets a value -/
theorem do_pairPut {t et : TypeId} {m k x : Operand} {r : Nat} {ks : List (α × β)} {a : α} {b : β} (hm : ev l m = some (.map (some r))) (hkv : ev l k = some (f a)) (hx : ev l x = some (g b)) (hh : h.get r = some (pairM f g ks)) (ht : mapKE P t = some (kt, et)) (hk : KeyOk P kt f) (hor : own r = true) :
    Does P l (.mapUpdate t m k x) h undefV (h.put r (pairM f g (putK ks a b))) := by
  obtain ⟨i1, i2⟩ := findA_get (g := g) hk a ks 0 0
  refine ⟨?_⟩
  have key : mapUpdateA P (ctxOf P) h t (.map (some r)) (f a) (g b) = some (h.put r (pairM f g (putK ks a b))) := by
    cases e : getK ks a with
    | none =>
      simp only [mapUpdateA, mapTypes_of ht, hh, pairM, hk.key, hor, Bool.and_self, if_true, i1 e]
      rw [putK_new e, pairEs_snoc]
      simp
    | some v =>
      obtain ⟨n, c, h1, h2⟩ := i2 v e
      simp only [mapUpdateA, mapTypes_of ht, hh, pairM, hk.key, hor, Bool.and_self, if_true, h1, hk.same, Nat.zero_add]
      rw [h2, putK_len e]
  simp only [opA, evalA_ofA, hm, hkv, hx, key]; rfl
end
/-! ### stores, the list behind them told -/
section
variable {P : Program} {rd : Option Nat} {nt : Nat} {ops : Array Oper} {l : EL} {ds : List Nat} {K : St → Prop} {i : Nat} {r : List Oper} {o : Oper} {ty : TypeId} {pos : String} {af : Array Edge} {H : AHeap} {lo : Nat} {L L' : List (Option ABlk)} {Qn : St → Prop} {Qe : Nat → St → Prop} {Qr : St → Prop}
theorem set_mid {α : Type} {p r : List α} {a b : α} {n : Nat} (h : n = p.length) : (p ++ a :: r).set n b = p ++ b :: r := by
  subst h; simp
end
section
variable {P : Program} {rd : Option Nat} {nt : Nat} {ops : Array Oper} {ds : List Nat} {l : EL} {H : AHeap} {lo : Nat} {L : List (Option ABlk)} {k i : Nat} {tj lc : List Nat} {K : St → Prop} {r : List Oper} {ty : TypeId} {pos : String} {af : Array Edge}
end
end Go.Den
