/- The symbolic layer: lists that grow by append. -/
import Derived.Test.YtflbffhahoblfaaGreatDoorSxA
noncomputable section
namespace Go.Den
def Stay (k0 : Nat) (L L' : List (Option ABlk)) : Prop := ∀ (j : Nat) y, j < k0 → L[j]? = some (some y) → L'[j]? = some (some y)
theorem Stay.refl (k0 : Nat) (L : List (Option ABlk)) : Stay k0 L L := fun _ _ _ h => h
theorem Stay.trans {k0 : Nat} {L L' L2 : List (Option ABlk)} (h : Stay k0 L L') (k : Stay k0 L' L2) : Stay k0 L L2 := fun j y hj hy => k j y hj (h j y hj hy)
theorem Stay.le {k0 k1 : Nat} {L L' : List (Option ABlk)} (h : Stay k1 L L') (hk : k0 ≤ k1) : Stay k0 L L' := fun j y hj hy => h j y (by omega) hy
theorem Stay.app {k0 : Nat} {L : List (Option ABlk)} (M : List (Option ABlk)) : Stay k0 L (L ++ M) := fun _ _ _ h => getApp h
theorem Stay.to {k0 : Nat} {L L' : List (Option ABlk)} (h : Stay k0 L L') {j : Nat} {y : ABlk} (hj : j < k0) (hy : L[j]? = some (some y)) : L'[j]? = some (some y) := h j y hj hy
def lstP (b : Nat) {α : Type} : List α → Option Addr
  | [] => none
  | _ :: _ => some ⟨b, 0, none⟩
def lstV {α : Type} (b : Nat) (l : List α) : Value := .slice (lstP b l) l.length l.length
def lstL {α : Type} (m : Nat) (f : α → List Value) : List α → List (Option ABlk)
  | [] => []
  | a :: l => [some (.cells ((a :: l).flatMap f) m true false)]
def lstH {α : Type} (H : AHeap) (m : Nat) (f : α → List Value) : List α → AHeap
  | [] => H
  | a :: l => H.add (.cells ((a :: l).flatMap f) m true false)
section
variable {α : Type} {H : AHeap} {lo : Nat} {L : List (Option ABlk)} {m : Nat} {f : α → List Value} {l : List α}
theorem lstH_ext : lstH (ext H lo L) m f l = ext H lo (L ++ lstL m f l) := by
  cases l with
  | nil => simp [lstH, lstL]
  | cons a l => simp only [lstH, lstL, ext_add]
theorem lst_slAt (hf : ∀ x, (f x).length = m) : SlAt (ext H lo (L ++ lstL m f l)) m f (lstP (nb H L.length) l) l := by
  cases l with
  | nil => exact .nil
  | cons a l => exact slAt_flat hf (ext_get_new List.getElem?_concat_length)
end
structure Lst {α : Type} (H : AHeap) (L : List (Option ABlk)) (m : Nat) (f : α → List Value) (k0 : Nat) (v : Value) (l : List α) : Prop where
  out : (l = [] ∧ v = .slice none 0 0) ∨ (l ≠ [] ∧ ∃ k, k0 ≤ k ∧ v = .slice (some ⟨nb H k, 0, none⟩) l.length l.length ∧ L[k]? = some (some (.cells (l.flatMap f) m true false)))
section
variable {α : Type} {H : AHeap} {lo : Nat} {L L' : List (Option ABlk)} {m : Nat} {f : α → List Value} {l : List α} {k0 : Nat} {v : Value}
theorem Lst.nil : Lst H L m f k0 (.slice none 0 0) ([] : List α) := ⟨.inl ⟨rfl, rfl⟩⟩
theorem Lst.slice (h : Lst H L m f k0 v l) (hf : ∀ x, (f x).length = m) : ∃ p, v = .slice p l.length l.length ∧ SlAt (ext H lo L) m f p l ∧ (p = none ↔ l = []) := by
  rcases h.out with ⟨rfl, rfl⟩ | ⟨hne, k, h1, rfl, h2⟩
  · exact ⟨none, rfl, .nil, by simp⟩
  · exact ⟨_, rfl, slAt_flat hf (ext_get_new h2), by simp [hne]⟩
theorem Lst.app (h : Lst H L m f k0 v l) (M : List (Option ABlk)) : Lst H (L ++ M) m f k0 v l := by
  rcases h.out with ⟨e1, e2⟩ | ⟨hne, k, h1, e, h2⟩
  · exact ⟨.inl ⟨e1, e2⟩⟩
  · exact ⟨.inr ⟨hne, k, h1, e, getApp h2⟩⟩
theorem Lst.stay {k1 : Nat} (h : Lst H L m f k0 v l) (hs : Stay k1 L L') (hk : ∀ k, L[k]? = some (some (.cells (l.flatMap f) m true false)) → k < k1) : Lst H L' m f k0 v l := by
  rcases h.out with ⟨e1, e2⟩ | ⟨hne, k, h1, e, h2⟩
  · exact ⟨.inl ⟨e1, e2⟩⟩
  · exact ⟨.inr ⟨hne, k, h1, e, hs k _ (hk k h2) h2⟩⟩
theorem Lst.le {k1 : Nat} (h : Lst H L m f k1 v l) (hk : k0 ≤ k1) : Lst H L m f k0 v l := by
  rcases h.out with ⟨e1, e2⟩ | ⟨hne, k, h1, e, h2⟩
  · exact ⟨.inl ⟨e1, e2⟩⟩
  · exact ⟨.inr ⟨hne, k, by omega, e, h2⟩⟩
end
section
variable {P : Program} {rd : Option Nat} {nt : Nat} {ops : Array Oper} {l : EL} {ds : List Nat} {K : St → Prop} {i : Nat} {r : List Oper} {o : Oper} {ty : TypeId} {pos : String} {af : Array Edge} {H : AHeap} {lo : Nat} {L : List (Option ABlk)}
theorem seq_grow [PC P] {α : Type} {lst xs : List α} {f : α → List Value} {m k0 d : Nat} {args : Array Operand} {tys : Array TypeId} {st : TypeId} {tr : List TypeId} {v : Value} {b o' c by' z : Nat} {ag k ro : Bool} {e : TypeId} {zs cs : List Value}
    (hc : Closed H) (hv : Lst H L m f k0 v lst) (h0 : k0 ≤ L.length) (hf : ∀ x, (f x).length = m) (hone : ∀ x, (f x).all oneCell = true)
    (ha : evs l args.toList = some [v, .slice (some ⟨b, o', none⟩) xs.length c]) (hty : tys.toList = st :: st :: tr)
    (hs : selOf P st = some (m, ag)) (he : (tyOf P st).map (·.und) = some (.slice e)) (hz : zerOf P e = some zs) (hby : (tyOf P e).map (·.bytes) = some by')
    (hb : (ext H lo L).get b = some (.cells cs z k ro)) (hn : sliceIn cs o' (xs.length * m) = some (xs.flatMap f)) (hxs : xs ≠ []) (h1 : (2 * (lst.length + xs.length) + 1000) * by' ≤ 2 ^ 48) (h2 : by' ≠ 0) (h3 : m ≠ 0) (hd : Nat.blt d nt = true)
    (hk : ∀ v' L', Lst H L' m f k0 v' (lst ++ xs) → Stay k0 L L' → L'.length = L.length + 1 → SeqL P rd nt ops (o :: r) (i + 1) ⟨ofA ((d, v') :: l), ds, ext H lo L'⟩ K) :
    SeqL P rd nt ops (⟨some d, .call ⟨.builtin .append, args, tys⟩, ty, pos, af, none⟩ :: o :: r) i ⟨ofA l, ds, ext H lo L⟩ K := by
  have hx0 : 0 < xs.length := by cases xs with | nil => exact absurd rfl hxs | cons _ _ => simp
  have hall : (xs.flatMap f).all oneCell = true := by
    rw [List.all_eq_true]
    intro x hx
    obtain ⟨y, _, hy⟩ := List.mem_flatMap.1 hx
    exact List.all_eq_true.1 (hone y) x hy
  rcases hv.out with ⟨rfl, rfl⟩ | ⟨hne, k1, hk1, rfl, hL⟩
  · refine seq_newS (do_append0 ha hty hs he hz hby hb hn (by simpa using h1) h2 h3 hx0) hd (hk _ _ ?_ (Stay.app _) (by simp))
    exact ⟨.inr ⟨by simpa using hxs, L.length, h0, by simp, by simp⟩⟩
  · have hlt : k1 < L.length := (List.getElem?_eq_some_iff.1 hL).1
    refine seq_push hc hlt (do_append1 ha hty hs he hz hby hb hn (ext_get_new hL) (len_flat hf lst) (nb_own _) hall h1 h2 h3 hx0) hd (hk _ _ ?_ ?_ (by simp))
    · exact ⟨.inr ⟨by simp [hne], L.length, h0, by simp, by simp⟩⟩
    · intro j y hj hy
      rw [List.getElem?_append_left (by rw [List.length_set]; omega), List.getElem?_set_ne (by omega)]
      exact hy
end
section
variable {P : Program} {l : EL} {H : AHeap} {lo : Nat} {L : List (Option ABlk)} {α : Type} {m k0 : Nat} {f : α → List Value} {lst : List α} {v : Value}
theorem flat_all (hf : ∀ x, (f x).all (flatD 8) = true) (l : List α) : (l.flatMap f).all (flatD 8) = true := by
  rw [List.all_eq_true]
  intro x hx
  obtain ⟨y, _, hy⟩ := List.mem_flatMap.1 hx
  exact List.all_eq_true.1 (hf y) x hy
end
/-! ### max and min of two numbers -/
section
variable {P : Program} {l : EL} {h : AHeap}
end
end Go.Den
/- The symbolic layer: blocks of the caller that are turned; labels and scopes. -/
noncomputable section
namespace Go.Den
structure Puts (H H1 : AHeap) : Prop where
  next : H1.next = H.next
  odd : ∀ b, b % 2 = 1 → H1.get b = H.get b
  ge : ∀ b, b % 2 = 0 → H.fresh ≤ b → H1.get b = none
  chg : ∀ b y, b % 2 = 0 → b < H.fresh → H1.get b = some y → H.get b = some y ∨ ∃ cs z s ro, y = .cells cs z s ro ∧ cs.all (flatD 8) = true
  low : H1.low ≤ H.low
  lows : ∀ b, b < H.fresh → b < H1.low → H1.get b = H.get b
theorem Puts.refl {H : AHeap} (hc : Closed H) : Puts H H := ⟨rfl, fun _ _ => rfl, hc, fun _ _ _ _ h => .inl h, Nat.le_refl _, fun _ _ _ => rfl⟩
theorem Puts.closed {H H1 : AHeap} (h : Puts H H1) : Closed H1 := fun b h1 h2 => h.ge b h1 (by simp only [AHeap.fresh, h.next] at h2 ⊢; exact h2)
theorem Puts.fresh {H H1 : AHeap} (h : Puts H H1) : H1.fresh = H.fresh := by simp only [AHeap.fresh, h.next]
theorem Puts.put {H H1 : AHeap} (h : Puts H H1) {b : Nat} (hb : own b = true) (hlt : b < H.fresh) {cs : List Value} {z : Nat} {s ro : Bool} (hf : cs.all (flatD 8) = true) : Puts H (H1.put b (.cells cs z s ro)) := by
  refine ⟨h.next, fun c hc => ?_, fun c h1 h2 => ?_, fun c y h1 h2 hy => ?_, Nat.le_trans (Nat.min_le_left _ _) h.low, fun c h1 h2 => ?_⟩
  · rw [AHeap.get_put _ _ _ _ hb, if_neg (by intro e; subst e; rw [own_iff] at hb; omega)]; exact h.odd c hc
  · rw [AHeap.get_put _ _ _ _ hb, if_neg (by omega)]; exact h.ge c h1 h2
  · rw [AHeap.get_put _ _ _ _ hb] at hy
    split at hy
    · cases hy; exact .inr ⟨_, _, _, _, rfl, hf⟩
    · exact h.chg c y h1 h2 hy
  · have h2' : c < min H1.low b := h2
    rw [AHeap.get_put _ _ _ _ hb, if_neg (by omega)]
    exact h.lows c h1 (by omega)
theorem put_get {H : AHeap} {b c : Nat} {x : ABlk} (hb : own b = true) : (H.put b x).get c = if c = b then some x else H.get c := AHeap.get_put _ _ _ _ hb
theorem put_same {H : AHeap} {b : Nat} {x : ABlk} (hb : own b = true) : (H.put b x).get b = some x := by rw [put_get hb, if_pos rfl]
theorem put_ne {H : AHeap} {b c : Nat} {x y : ABlk} (hb : own b = true) (hne : c ≠ b) (h : H.get c = some y) : (H.put b x).get c = some y := by rw [put_get hb, if_neg hne]; exact h
theorem closed_put {H : AHeap} (hc : Closed H) {b : Nat} {x : ABlk} (hb : own b = true) (hlt : b < H.fresh) : Closed (H.put b x) := fun c h1 h2 => by
  have h2' : H.fresh ≤ c := h2
  rw [put_get hb, if_neg (by omega)]; exact hc c h1 h2'
section
variable {P : Program} {rd : Option Nat} {nt : Nat} {ops : Array Oper} {l : EL} {ds : List Nat} {K : St → Prop} {i : Nat} {r : List Oper} {o : Oper} {ty : TypeId} {pos : String} {af : Array Edge} {H : AHeap} {lo : Nat} {L : List (Option ABlk)}
  {Qn : St → Prop} {Qe : Nat → St → Prop} {Qr : St → Prop}
end
section
variable {P : Program} {l : EL} {h : AHeap}
end
end Go.Den
