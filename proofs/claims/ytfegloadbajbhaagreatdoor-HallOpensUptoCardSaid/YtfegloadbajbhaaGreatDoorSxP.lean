/- The symbolic layer: blocks of the caller that are turned; labels and scopes. -/
import Derived.Test.YtfegloadbajbhaaGreatDoorSxK
noncomputable section
namespace Go.Den

/-- H with some of its own blocks turned, all into cells without addresses -/
structure Puts (H H1 : AHeap) : Prop where
  next : H1.next = H.next
  odd : ∀ b, b % 2 = 1 → H1.get b = H.get b
  ge : ∀ b, b % 2 = 0 → H.fresh ≤ b → H1.get b = none
  chg : ∀ b y, b % 2 = 0 → b < H.fresh → H1.get b = some y → H.get b = some y ∨ ∃ cs z s ro, y = .cells cs z s ro ∧ cs.all (flatD 8) = true
  low : H1.low ≤ H.low
  lows : ∀ b, b < H.fresh → b < H1.low → H1.get b = H.get b
theorem Puts.refl {H : AHeap} (hc : Closed H) : Puts H H := ⟨rfl, fun _ _ => rfl, hc, fun _ _ _ _ h => .inl h, Nat.le_refl _, fun _ _ _ => rfl⟩
theorem Puts.closed {H H1 : AHeap} (h : Puts H H1) : Closed H1 := fun b h1 h2 => h.ge b h1 (by simp only [AHeap.fresh, h.next] at h2 ⊢; exact h2)
theorem Puts.fresh {H H1 : AHeap} (h : Puts H H1) : H1.fresh = H.fresh := by simp only [AHeap.fresh, h.next]
theorem Puts.put {H H1 : AHeap} (h : Puts H H1) {b : Nat} (hb : own b = true) (hlt : b < H.fresh) {cs : List Value} {z : Nat} {s ro : Bool} (hf : cs.all (flatD 8) = true) : Puts H (H1.put b (.cells cs z s ro)) := by
  refine ⟨h.next, fun c hc => ?_, fun c h1 h2 => ?_, fun c y h1 h2 hy => ?_, Nat.le_trans (Nat.min_le_left _ _) h.low, fun c h1 h2 => ?_⟩
  · rw [AHeap.get_put _ _ _ _ hb, if_neg (by intro e; subst e; rw [own_iff] at hb; omega)]; exact h.odd c hc
  · rw [AHeap.get_put _ _ _ _ hb, if_neg (by omega)]; exact h.ge c h1 h2
  · rw [AHeap.get_put _ _ _ _ hb] at hy
    split at hy
    · cases hy; exact .inr ⟨_, _, _, _, rfl, hf⟩
    · exact h.chg c y h1 h2 hy
  · have h2' : c < min H1.low b := h2
    rw [AHeap.get_put _ _ _ _ hb, if_neg (by omega)]
    exact h.lows c h1 (by omega)
theorem put_get {H : AHeap} {b c : Nat} {x : ABlk} (hb : own b = true) : (H.put b x).get c = if c = b then some x else H.get c := AHeap.get_put _ _ _ _ hb
theorem put_same {H : AHeap} {b : Nat} {x : ABlk} (hb : own b = true) : (H.put b x).get b = some x := by rw [put_get hb, if_pos rfl]
theorem put_ne {H : AHeap} {b c : Nat} {x y : ABlk} (hb : own b = true) (hne : c ≠ b) (h : H.get c = some y) : (H.put b x).get c = some y := by rw [put_get hb, if_neg hne]; exact h
theorem closed_put {H : AHeap} (hc : Closed H) {b : Nat} {x : ABlk} (hb : own b = true) (hlt : b < H.fresh) : Closed (H.put b x) := fun c h1 h2 => by
  have h2' : H.fresh ≤ c := h2
  rw [put_get hb, if_neg (by omega)]; exact hc c h1 h2'

section
variable {P : Program} {rd : Option Nat} {nt : Nat} {ops : Array Oper} {l : EL} {ds : List Nat} {K : St → Prop} {i : Nat} {r : List Oper} {o : Oper} {ty : TypeId} {pos : String} {af : Array Edge} {H : AHeap} {lo : Nat} {L : List (Option ABlk)}
  {Qn : St → Prop} {Qe : Nat → St → Prop} {Qr : St → Prop}
end

section
variable {P : Program} {l : EL} {h : AHeap}
theorem stl_flat {α : Type} {f : α → List Value} {w : Nat} (hf : ∀ x, (f x).length = w) {l : List α} {i j : Nat} {v : Value} {x' : α} (h : i < l.length) (hj : j < w) (hv : (f l[i]).set j v = f x') (hg : v.cells.toList = [v]) (ho : oneCell v = true) :
    stl 1 (l.flatMap f) (0 + i * w + j * 1) v = some ((l.set i x').flatMap f) := by
  have key : ∀ (l : List α) (i : Nat) (h : i < l.length), (f l[i]).set j v = f x' → writeAt (l.flatMap f) (i * w + j) [v] = some ((l.set i x').flatMap f) := by
    intro l
    induction l with
    | nil => intro i h; simp at h
    | cons a r ih =>
      intro i h hv
      have w1 : ∀ (a b : List Value) (k : Nat), k < a.length → writeAt (a ++ b) k [v] = some (a.set k v ++ b) := by
        intro a
        induction a with
        | nil => intro b k hk; simp at hk
        | cons y ys ihy =>
          intro b k hk
          cases k with
          | zero => simp [writeAt]
          | succ k => simp [writeAt, ihy b k (by simpa using hk)]
      have w2 : ∀ (a b c : List Value) (k : Nat), writeAt b k [v] = some c → writeAt (a ++ b) (a.length + k) [v] = some (a ++ c) := by
        intro a
        induction a with
        | nil => intro b c k hk; simpa using hk
        | cons y ys ihy =>
          intro b c k hk
          have e : (y :: ys).length + k = (ys.length + k) + 1 := by simp; omega
          rw [e]
          simp [writeAt, ihy b c k hk]
      cases i with
      | zero =>
        simp only [List.getElem_cons_zero] at hv
        simp only [List.flatMap_cons, List.set_cons_zero, Nat.zero_mul, Nat.zero_add]
        rw [w1 _ _ _ (by rw [hf]; exact hj), hv]
      | succ i =>
        simp only [List.getElem_cons_succ] at hv
        simp only [List.flatMap_cons, List.set_cons_succ]
        have e : (i + 1) * w + j = (f a).length + (i * w + j) := by rw [hf, Nat.add_mul]; omega
        rw [e, w2 _ _ _ _ (ih i (by simpa using h) hv)]
  have e : 0 + i * w + j * 1 = i * w + j := by omega
  have := key l i h hv
  simp only [stl, hg, e]
  simp [ho, this]
end
end Go.Den
