/- The symbolic layer: several lists that grow beside each other. -/
import Derived.Test.YtflbffhahoblfaaGreatDoorPnF
import Derived.Test.YtflbffhahoblfaaGreatDoorStB
import Derived.Test.YtflbffhahoblfaaGreatDoorSxY
import Derived.Test.YtflbffhahoblfaaGreatDoorSxQ
import Derived.Shelf.Sort.Plain
noncomputable section
namespace Go.Den
def Keeps (L L' : List (Option ABlk)) : Prop := ∀ (k : Nat) y, L[k]? = some (some y) → L'[k]? = some (some y)
theorem Keeps.refl (L : List (Option ABlk)) : Keeps L L := fun _ _ h => h
theorem Keeps.trans {L L1 L2 : List (Option ABlk)} (h : Keeps L L1) (k : Keeps L1 L2) : Keeps L L2 := fun j y hy => k j y (h j y hy)
theorem Keeps.app {L : List (Option ABlk)} (M : List (Option ABlk)) : Keeps L (L ++ M) := fun _ _ h => getApp h
structure LstI {α : Type} (H : AHeap) (L : List (Option ABlk)) (m : Nat) (f : α → List Value) (K : Nat) (v : Value) (l : List α) : Prop where
  out : (l = [] ∧ v = .slice none 0 0) ∨ (l ≠ [] ∧ v = .slice (some ⟨nb H K, 0, none⟩) l.length l.length ∧ L[K]? = some (some (.cells (l.flatMap f) m true false)))
section
variable {α : Type} {H : AHeap} {lo K k0 m : Nat} {L L' : List (Option ABlk)} {f : α → List Value} {l : List α} {v : Value}
theorem LstI.nil : LstI H L m f K (.slice none 0 0) ([] : List α) := ⟨.inl ⟨rfl, rfl⟩⟩
theorem LstI.lst (h : LstI H L m f K v l) (hk : k0 ≤ K) : Lst H L m f k0 v l := by
  rcases h.out with ⟨e1, e2⟩ | ⟨h1, h2, h3⟩
  · exact ⟨.inl ⟨e1, e2⟩⟩
  · exact ⟨.inr ⟨h1, K, hk, h2, h3⟩⟩
theorem LstI.keep (h : LstI H L m f K v l) (hk : l ≠ [] → L'[K]? = L[K]?) : LstI H L' m f K v l := by
  rcases h.out with ⟨e1, e2⟩ | ⟨h1, h2, h3⟩
  · exact ⟨.inl ⟨e1, e2⟩⟩
  · exact ⟨.inr ⟨h1, h2, by rw [hk h1]; exact h3⟩⟩
theorem LstI.keeps (h : LstI H L m f K v l) (hk : Keeps L L') : LstI H L' m f K v l := by
  rcases h.out with ⟨e1, e2⟩ | ⟨h1, h2, h3⟩
  · exact ⟨.inl ⟨e1, e2⟩⟩
  · exact ⟨.inr ⟨h1, h2, hk _ _ h3⟩⟩
theorem LstI.lt (h : LstI H L m f K v l) (hne : l ≠ []) : K < L.length := by
  rcases h.out with ⟨e1, _⟩ | ⟨_, _, h3⟩
  · exact absurd e1 hne
  · exact (List.getElem?_eq_some_iff.1 h3).1
theorem LstI.at_ (h : LstI H L m f K v l) (hne : l ≠ []) : v = .slice (some ⟨nb H K, 0, none⟩) l.length l.length ∧ L[K]? = some (some (.cells (l.flatMap f) m true false)) := by
  rcases h.out with ⟨e1, _⟩ | ⟨_, h2, h3⟩
  · exact absurd e1 hne
  · exact ⟨h2, h3⟩
theorem LstI.slice (h : LstI H L m f K v l) (hf : ∀ x, (f x).length = m) : ∃ p, v = .slice p l.length l.length ∧ SlAt (ext H lo L) m f p l ∧ (p = none ↔ l = []) := (h.lst (Nat.zero_le _)).slice hf
end
section
variable {P : Program} {rd : Option Nat} {nt : Nat} {ops : Array Oper} {l : EL} {ds : List Nat} {K : St → Prop} {i : Nat} {r : List Oper} {o : Oper} {ty : TypeId} {pos : String} {af : Array Edge} {H : AHeap} {lo : Nat} {L : List (Option ABlk)} {α : Type} {f : α → List Value}
theorem seq_growI [PC P] {lst xs : List α} {m k0 d : Nat} {args : Array Operand} {tys : Array TypeId} {st : TypeId} {tr : List TypeId} {v : Value} {b o' c by' z : Nat} {ag k ro : Bool} {e : TypeId} {zs cs : List Value}
    (hc : Closed H) (hv : LstI H L m f k0 v lst) (hf : ∀ x, (f x).length = m) (hone : ∀ x, (f x).all oneCell = true)
    (ha : evs l args.toList = some [v, .slice (some ⟨b, o', none⟩) xs.length c]) (hty : tys.toList = st :: st :: tr)
    (hs : selOf P st = some (m, ag)) (he : (tyOf P st).map (·.und) = some (.slice e)) (hz : zerOf P e = some zs) (hby : (tyOf P e).map (·.bytes) = some by')
    (hb : (ext H lo L).get b = some (.cells cs z k ro)) (hn : sliceIn cs o' (xs.length * m) = some (xs.flatMap f)) (hxs : xs ≠ []) (h1 : (2 * (lst.length + xs.length) + 1000) * by' ≤ 2 ^ 48) (h2 : by' ≠ 0) (h3 : m ≠ 0) (hd : Nat.blt d nt = true)
    (hk : ∀ v' L', LstI H L' m f L.length v' (lst ++ xs) → (∀ j, j < L.length → (lst ≠ [] → j ≠ k0) → L'[j]? = L[j]?) → L'.length = L.length + 1 → SeqL P rd nt ops (o :: r) (i + 1) ⟨ofA ((d, v') :: l), ds, ext H lo L'⟩ K) :
    SeqL P rd nt ops (⟨some d, .call ⟨.builtin .append, args, tys⟩, ty, pos, af, none⟩ :: o :: r) i ⟨ofA l, ds, ext H lo L⟩ K := by
  have hx0 : 0 < xs.length := by cases xs with | nil => exact absurd rfl hxs | cons _ _ => simp
  have hall : (xs.flatMap f).all oneCell = true := by
    rw [List.all_eq_true]
    intro x hx
    obtain ⟨y, _, hy⟩ := List.mem_flatMap.1 hx
    exact List.all_eq_true.1 (hone y) x hy
  rcases hv.out with ⟨rfl, rfl⟩ | ⟨hne, rfl, hL⟩
  · refine seq_newS (do_append0 ha hty hs he hz hby hb hn (by simpa using h1) h2 h3 hx0) hd (hk _ _ ?_ (fun j hj _ => List.getElem?_append_left hj) (by simp))
    exact ⟨.inr ⟨by simpa using hxs, by simp, by simp⟩⟩
  · have hlt : k0 < L.length := (List.getElem?_eq_some_iff.1 hL).1
    refine seq_push hc hlt (do_append1 ha hty hs he hz hby hb hn (ext_get_new hL) (len_flat hf lst) (nb_own _) hall h1 h2 h3 hx0) hd (hk _ _ ?_ ?_ (by simp))
    · refine ⟨.inr ⟨by simp [hne], by simp, ?_⟩⟩
      have e2 : (L.set k0 none).length = L.length := List.length_set
      rw [← e2, List.flatMap_append]
      exact List.getElem?_concat_length
    · intro j hj hjk
      rw [List.getElem?_append_left (by rw [List.length_set]; exact hj), List.getElem?_set_ne (fun e => hjk hne e.symm)]
end
theorem ct_JE {P : Program} {rd : Option Nat} {nt : Nat} {ds : List Nat} {a b : Code} {s : St} {Qn : St → Prop} {Qe Qe' : Nat → St → Prop} {Qr Qr' : St → Prop} (E : EL) {h : AHeap} (h1 : CT P rd nt a s (JP E ds h) Qe' Qr') (h2 : CT P rd nt b ⟨ofA E, ds, h⟩ Qn Qe Qr) : CT P rd nt a s (fun s' => CT P rd nt b s' Qn Qe Qr) Qe' Qr' :=
  h1.mono (jp_ct h2) (fun _ _ h => h) (fun _ h => h)
theorem ct_JXE {P : Program} {rd : Option Nat} {nt : Nat} {ds : List Nat} {a b : Code} {s : St} {α : Type} {Qn : St → Prop} {Qe Qe' : Nat → St → Prop} {Qr Qr' : St → Prop} (E : α → EL) (hh : α → AHeap) (J : α → Prop) (h1 : CT P rd nt a s (JX E ds hh J) Qe' Qr') (h2 : ∀ a, J a → CT P rd nt b ⟨ofA (E a), ds, hh a⟩ Qn Qe Qr) : CT P rd nt a s (fun s' => CT P rd nt b s' Qn Qe Qr) Qe' Qr' :=
  h1.mono (jx_ct h2) (fun _ _ h => h) (fun _ h => h)
end Go.Den
/- The symbolic layer: two lists, a list beside numbers are the result. -/
noncomputable section
namespace Go.Den
section
variable {P : Program} {l : EL} {H : AHeap} {lo : Nat} {L : List (Option ABlk)} {α β : Type} {m m' K K' : Nat} {f : α → List Value} {g : β → List Value} {xs : List α} {ys : List β} {v w : Value}
theorem lstH_fresh_nil : (lstH H m f ([] : List α)).fresh = H.fresh := rfl
theorem lstH_fresh_cons {x : α} {xs : List α} : (lstH H m f (x :: xs)).fresh = H.fresh + 2 := by simp only [lstH, AHeap.add, AHeap.fresh]; omega
theorem fin_lists {Q : Value → AHeap → Prop} {rs : Array ResultVar} (hc : Closed H) (hv : LstI H L m f K v xs) (hw : LstI H L m' g K' w ys) (hne : xs ≠ [] → ys ≠ [] → K ≠ K') (hr : resE l rs.toList = some [v, w]) (hf : ∀ x, (f x).all (flatD 8) = true) (hg : ∀ x, (g x).all (flatD 8) = true)
    (hq : Q (.tuple ⟨[lstV H.fresh xs, lstV (lstH H m f xs).fresh ys]⟩) (lstH (lstH H m f xs) m' g ys)) : Fin P rs H Q ⟨ofA l, [], ext H lo L⟩ := by
  cases xs with
  | nil =>
    rcases hv.out with ⟨_, rfl⟩ | ⟨h, _⟩
    · cases ys with
      | nil =>
        rcases hw.out with ⟨_, rfl⟩ | ⟨h, _⟩
        · exact fin_flat hc hr rfl hq
        · exact absurd rfl h
      | cons y ys =>
        obtain ⟨rfl, hL⟩ := hw.at_ (by simp)
        refine fin_one (k := K') hc hr hL (flat_all hg _) ?_ hq
        simp [packA, renV, renL, lstV, lstP, renOf_one (H := H) ⟨own_iff.1 (nb_own K'), nb_ge K'⟩, lstH_fresh_nil]
    · exact absurd rfl h
  | cons x xs =>
    obtain ⟨rfl, hL1⟩ := hv.at_ (by simp)
    cases ys with
    | nil =>
      rcases hw.out with ⟨_, rfl⟩ | ⟨h, _⟩
      · refine fin_one (k := K) hc hr hL1 (flat_all hf _) ?_ hq
        simp [packA, renV, renL, lstV, lstP, renOf_one (H := H) ⟨own_iff.1 (nb_own K), nb_ge K⟩]
      · exact absurd rfl h
    | cons y ys =>
      obtain ⟨rfl, hL2⟩ := hw.at_ (by simp)
      have hKK := hne (by simp) (by simp)
      obtain ⟨r1, r2⟩ := renOf_two (H := H) ⟨own_iff.1 (nb_own K), nb_ge K⟩ ⟨own_iff.1 (nb_own K'), nb_ge K'⟩ (fun e => hKK (nb_inj.1 e))
      refine fin_two (j := K) (k := K') hc hr hL1 hL2 hKK (flat_all hf _) (flat_all hg _) ?_ hq
      simp [packA, renV, renL, lstV, lstP, r1, r2, lstH_fresh_cons]
end
/-! ### old blocks that are dropped -/
theorem Puts.kill {H H1 : AHeap} (h : Puts H H1) {b : Nat} (hb : own b = true) (hlt : b < H.fresh) : Puts H (H1.kill b) := by
  refine ⟨h.next, fun c hc => ?_, fun c h1 h2 => ?_, fun c y h1 h2 hy => ?_, Nat.le_trans (Nat.min_le_left _ _) h.low, fun c h1 h2 => ?_⟩
  · rw [kill_get hb, if_neg (by intro e; subst e; rw [own_iff] at hb; omega)]; exact h.odd c hc
  · rw [kill_get hb, if_neg (by omega)]; exact h.ge c h1 h2
  · rw [kill_get hb] at hy
    split at hy
    · cases hy
    · exact h.chg c y h1 h2 hy
  · have h2' : c < min H1.low b := h2
    rw [kill_get hb, if_neg (by omega)]
    exact h.lows c h1 (by omega)
section
variable {P : Program} {l : EL} {H H1 : AHeap} {lo : Nat} {L : List (Option ABlk)}
end
section
variable {P : Program} {rd : Option Nat} {nt : Nat} {ops : Array Oper} {l : EL} {ds : List Nat} {K : St → Prop} {i : Nat} {r : List Oper} {o : Oper} {ty : TypeId} {pos : String} {af : Array Edge} {H : AHeap} {lo : Nat} {L : List (Option ABlk)}
  {Qn : St → Prop} {Qe : Nat → St → Prop} {Qr : St → Prop} {bk : Code}
variable {L0 : List (Option ABlk)} {ow : List Nat} {N : List ABlk}
end
end Go.Den
/- The symbolic layer: a call of the library that turns one row, by its proved contract. -/
noncomputable section
namespace Go.Den
open Go.Sort
theorem vr_eq {Γ : Ga} {v v' : Value} (h : VR Γ v v') (hf : flatC v = true) : v' = v := by
  cases h <;> first | rfl | (simp [flatC] at hf)
theorem vr_refl {Γ : Ga} {v : Value} (hf : flatC v = true) : VR Γ v v := by
  cases v <;> first | (simp [flatC] at hf; done) | exact .bool _ | exact .int _ _ | exact .string _
theorem rel_grow {Γ : Ga} {H : AHeap} {w : World} (hr : Rel Γ H w) (os : Array Obj) : Rel Γ H (grow w os) ∧ Adv Γ H w Γ H (grow w os) := by
  have old : ∀ r, r < w.heap.size → (grow w os).heap[r]? = w.heap[r]? := fun r h => Go.Sort.heap_grow_old _ _ h
  refine ⟨⟨hr.dom, fun b x hb => ?_, hr.ownd, hr.sep⟩, ⟨fun _ _ => rfl, Nat.le_refl _, ?_, fun r h _ => old r h, fun _ hm => .inr hm, rfl, rfl, rfl, .refl _⟩⟩
  · obtain ⟨i, o, h1, h2, h3⟩ := hr.blk b x hb
    exact ⟨i, o, h1, by rw [old _ (Array.getElem?_eq_some_iff.1 h2).1]; exact h2, h3⟩
  · show w.heap.size ≤ (w.heap ++ os).size
    simp
theorem turned_row {α : Type} [Inhabited α] {g : α → Value} {w : World} {r n : Nat} {d : Array α} {rc : Array Value} {e : TypeId} {fz : Nat × Nat} (h : w.heap[r]? = some (.cells rc e fz)) :
    Turned w (putRow g (Go.Sort.ahead w n) r 0 d) r (.cells (putCells g 0 d rc) e fz) := by
  refine ⟨by simp [putRow, mapBlock, Go.Sort.ahead], ?_, fun k hk => ?_, rfl, rfl, rfl⟩
  · simp [putRow, mapBlock, Go.Sort.ahead, Array.getElem?_modify, h, onCells]
  · have : ¬ r = k := fun e => hk e.symm
    simp [putRow, mapBlock, Go.Sort.ahead, Array.getElem?_modify, this]
theorem row_of {α : Type} [Inhabited α] {g : α → Value} (hf : ∀ x, flatC (g x) = true) {Γ : Ga} {H : AHeap} {w : World} (hr : Rel Γ H w) {b z : Nat} {s : Bool} {T : List α} {i : BI} (hg : H.get b = some (.cells (T.map g) z s false)) (hi : Γ b = some i) :
    ∃ rc e fz, w.heap[i.real]? = some (.cells rc e fz) ∧ i.shift = 0 ∧ T.length ≤ rc.size ∧ Holds g w i.real 0 T.toArray ∧
      ∀ T' : List α, T'.length = T.length → ObjR Γ i (.cells (T'.map g) z s false) (.cells (putCells g 0 T'.toArray rc) e fz) := by
  obtain ⟨i2, o, h1, h2, h3⟩ := hr.blk b _ hg
  rw [hi] at h1; cases h1
  obtain ⟨rc, e, fz, rfl, q1, q2, q3, q4, q5, q6, q7, q8⟩ := h3
  obtain ⟨q9, q10⟩ := q6 rfl
  have hsz : T.length ≤ rc.size := by simp at q4; omega
  refine ⟨rc, e, fz, h2, q9, hsz, fun j hj => ?_, fun T' hT => ?_⟩
  · have hj' : j < T.length := by simpa using hj
    have hz : (T.map g)[j]? = some (g T[j]) := by simp [hj']
    obtain ⟨v', k1, k2⟩ := q8 j (g T[j]) hz
    have k2 := vr_eq k2 (hf _)
    subst k2
    rw [q9, Nat.zero_add] at k1
    refine ⟨?_, ?_⟩
    · simp only [World.cell?, h2, Nat.zero_add, Option.isSome_none, Bool.false_eq_true, if_false]
      rw [k1]
      simp [hj']
    · simp only [World.frozen?, h2, Nat.zero_add]
      exact q10 j
  · refine ⟨_, _, _, rfl, by simpa [hT] using q1, q2, q3, by simpa [putCells, hT] using q4, by simpa [putCells] using q5, q6, q7, fun k v hk => ?_⟩
    obtain ⟨hk1, hk2⟩ := List.getElem?_eq_some_iff.1 hk
    have hk1 : k < T'.length := by simpa using hk1
    refine ⟨v, ?_, ?_⟩
    · rw [q9, Nat.zero_add]
      have hks : k < rc.size := by omega
      simp only [List.getElem_map] at hk2
      simp only [putCells, Array.getElem?_mapIdx, Array.getElem?_eq_getElem hks, Option.map_some]
      rw [if_pos ⟨Nat.zero_le _, by simpa using hk1⟩]
      simp [hk1, hk2]
    · simp only [List.getElem_map] at hk2
      rw [← hk2]; exact vr_refl (hf _)
theorem callT_row {α : Type} [Inhabited α] {g : α → Value} (hf : ∀ x, flatC (g x) = true) {P : Program} {f : FuncId} {H : AHeap} {b z c : Nat} {s : Bool} {T T' : List α} (henter : ∀ args w, (callFunc f args).run P w = .ok (.enter f args) w)
    (hb : own b = true) (hg : H.get b = some (.cells (T.map g) z s false)) (hT : T'.length = T.length)
    (hcall : ∀ blk cap w, Holds g w blk 0 T.toArray → blk < w.heap.size → Calls P f #[.slice (some ⟨blk, 0, none⟩) T.length cap] w fun e w' => e = .returned (.tuple #[]) ∧ ∃ n os, w' = grow (putRow g (Go.Sort.ahead w n) blk 0 T'.toArray) os) :
    Ret P f [.slice (some ⟨b, 0, none⟩) T.length c] H (packA []) (H.put b (.cells (T'.map g) z s false)) := by
  refine ⟨henter, fun Γ w args' hr _ ha => ?_⟩
  cases ha with
  | cons hv hn =>
    cases hn
    cases hv with
    | slice hi hc =>
      rename_i c' i
      obtain ⟨rc, e, fz, h1, h2, h3, h4, h5⟩ := row_of hf hr hg hi
      have hlt := (Array.getElem?_eq_some_iff.1 h1).1
      rw [h2]
      refine callsIn_wide.2 ((hcall i.real c' w h4 hlt).mono ?_)
      rintro e2 w' ⟨rfl, n, os, rfl⟩
      obtain ⟨r1, a1⟩ := hr.put hg rfl hb hi (turned_row (g := g) (n := n) (d := T'.toArray) h1) (h5 T' hT)
      obtain ⟨r2, a2⟩ := rel_grow r1 os
      exact ⟨_, packA [], _, Γ, rfl, ⟨rfl, rfl⟩, r2, a1.trans a2, .tuple .nil⟩
end Go.Den
