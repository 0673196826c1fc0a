/- The symbolic layer: lists in maps that grow; ranges over maps whose iterator lies anywhere. -/
import Derived.Test.YtppflopinmkpgaaDoorSxQ
import Derived.Test.YtppflopinmkpgaaDoorSxM
noncomputable section
namespace Go.Den
section
variable {P : Program} {rd : Option Nat} {nt : Nat} {ops : Array Oper} {l : EL} {ds : List Nat} {K : St → Prop} {i : Nat} {r : List Oper} {o : Oper} {ty : TypeId} {pos : String} {af : Array Edge} {H : AHeap} {lo : Nat} {L : List (Option ABlk)} {L0 : List (Option ABlk)} {ow : List Nat} {N : List ABlk}
theorem sd_pushK [PC P] {d n c k : Nat} {op : Op} {y : ABlk} (hc : Closed H) (hfree : isFree op = false) (hser : seriesS ops i = true) (hlt : k < (L0 ++ N.map some).length)
    (hop : Does P l op (ext H lo (L0 ++ N.map some)) (.slice (some ⟨(ext H lo (L0 ++ N.map some)).fresh, 0, none⟩) n c) (((ext H lo (L0 ++ N.map some)).kill (nb H k)).add y)) (hd : Nat.blt d nt = true)
    (hk : SeqD P rd nt ops r (i + 1) ds ((d, .slice (some ⟨nb H (L0 ++ N.map some).length, 0, none⟩) n c) :: l) H lo ((L0 ++ N.map some).set k none ++ [some y]) [] [] K) : SeqD P rd nt ops (⟨some d, op, ty, pos, af, none⟩ :: r) i ds l H lo L0 ow N K := by
  rw [ext_fresh] at hop
  exact sd_ho fun ho => sd_seriesC (o := ⟨some d, op, ty, pos, af, none⟩) (v := .slice (some ⟨nb H (L0 ++ N.map some).length, 0, none⟩) n c) hfree hser (fun ad ha => opT_of ho rfl hop hd ha) (ext_push hc hlt y) rfl hc (Nat.le_refl _) (by rw [ext_fresh, ext_fresh]; simp only [nb, List.length_append, List.length_set]; omega) hk
/-- in a drawn region, in series: append of a list to a list that was made by appending; the other blocks stay -/
theorem sd_growK [PC P] {α : Type} {f : α → List Value} {lst xs : List α} {m k0 d : Nat} {args : Array Operand} {tys : Array TypeId} {st : TypeId} {tr : List TypeId} {v : Value} {b o' c by' z : Nat} {ag k ro : Bool} {e : TypeId} {zs cs : List Value}
    (hc : Closed H) (hfree : isFree (.call ⟨.builtin .append, args, tys⟩) = false) (hser : seriesS ops i = true) (hv : Lst H (L0 ++ N.map some) m f k0 v lst) (h0 : k0 ≤ (L0 ++ N.map some).length) (hf : ∀ x, (f x).length = m) (hone : ∀ x, (f x).all oneCell = true)
    (ha : evs l args.toList = some [v, .slice (some ⟨b, o', none⟩) xs.length c]) (hty : tys.toList = st :: st :: tr)
    (hs : selOf P st = some (m, ag)) (he : (tyOf P st).map (·.und) = some (.slice e)) (hz : zerOf P e = some zs) (hby : (tyOf P e).map (·.bytes) = some by')
    (hb : (ext H lo (L0 ++ N.map some)).get b = some (.cells cs z k ro)) (hn : sliceIn cs o' (xs.length * m) = some (xs.flatMap f)) (hxs : xs ≠ []) (h1 : (2 * (lst.length + xs.length) + 1000) * by' ≤ 2 ^ 48) (h2 : by' ≠ 0) (h3 : m ≠ 0) (hd : Nat.blt d nt = true)
    (hk : ∀ v' L', Lst H L' m f k0 v' (lst ++ xs) → (∀ (j : Nat) y, (L0 ++ N.map some)[j]? = some (some y) → (lst ≠ [] → y ≠ .cells (lst.flatMap f) m true false) → L'[j]? = some (some y)) → L'.length = (L0 ++ N.map some).length + 1 → SeqD P rd nt ops r (i + 1) ds ((d, v') :: l) H lo L' [] [] K) :
    SeqD P rd nt ops (⟨some d, .call ⟨.builtin .append, args, tys⟩, ty, pos, af, none⟩ :: r) i ds l H lo L0 ow N K := by
  have hx0 : 0 < xs.length := by cases xs with | nil => exact absurd rfl hxs | cons _ _ => simp
  have hall : (xs.flatMap f).all oneCell = true := by
    rw [List.all_eq_true]
    intro x hx
    obtain ⟨y, _, hy⟩ := List.mem_flatMap.1 hx
    exact List.all_eq_true.1 (hone y) x hy
  rcases hv.out with ⟨rfl, rfl⟩ | ⟨hne, k1, hk1, rfl, hL⟩
  · have hop := do_append0 (P := P) (h := ext H lo (L0 ++ N.map some)) ha hty hs he hz hby hb hn (by simpa using h1) h2 h3 hx0
    rw [ext_fresh, ext_add] at hop
    refine sd_ho fun ho => sd_seriesC (o := ⟨some d, .call ⟨.builtin .append, args, tys⟩, ty, pos, af, none⟩) hfree hser (fun ad ha' => opT_of ho rfl hop hd ha') (.refl _) rfl hc (Nat.le_refl _) ?_ (hk _ _ ?_ (fun j y hy _ => getApp hy) List.length_append)
    · rw [ext_fresh, ext_fresh]; simp only [nb, List.length_append]; omega
    · exact ⟨.inr ⟨by simpa using hxs, _, h0, rfl, List.getElem?_concat_length⟩⟩
  · have hlt : k1 < (L0 ++ N.map some).length := (List.getElem?_eq_some_iff.1 hL).1
    have hop := do_append1 (P := P) (h := ext H lo (L0 ++ N.map some)) ha hty hs he hz hby hb hn (ext_get_new hL) (len_flat hf lst) (nb_own _) hall h1 h2 h3 hx0
    refine sd_pushK hc hfree hser hlt hop hd (hk _ _ ?_ ?_ (by simp))
    · refine ⟨.inr ⟨by simp [hne], (L0 ++ N.map some).length, h0, by have e3 : (lst ++ xs).length = lst.length + xs.length := List.length_append; rw [e3], ?_⟩⟩
      rw [List.flatMap_append]
      have e2 : ((L0 ++ N.map some).set k1 none).length = (L0 ++ N.map some).length := List.length_set
      rw [← e2]
      exact List.getElem?_concat_length
    · intro j y hy hne2
      have hjk : j ≠ k1 := fun e => by
        subst e
        rw [hL] at hy
        cases hy
        exact hne2 hne rfl
      exact getApp (by rw [List.getElem?_set_ne (fun e => hjk e.symm)]; exact hy)
theorem Lst.move {α : Type} {m k0 : Nat} {f : α → List Value} {lst : List α} {v : Value} {L' : List (Option ABlk)} (h : Lst H L m f k0 v lst) (hs : lst ≠ [] → ∀ j : Nat, L[j]? = some (some (ABlk.cells (lst.flatMap f) m true false)) → L'[j]? = some (some (ABlk.cells (lst.flatMap f) m true false))) : Lst H L' m f k0 v lst := by
  rcases h.out with ⟨e1, e2⟩ | ⟨hne, k, h1, e, h2⟩
  · exact ⟨.inl ⟨e1, e2⟩⟩
  · exact ⟨.inr ⟨hne, k, h1, e, hs hne k h2⟩⟩
/-- the next entry; the iterator lies at k -/
theorem seq_nextMapK [PC P] {α β : Type} {f : α → Value} {g : β → Value} {ks : List (α × β)} {d k : Nat} {it : Operand} {m : Nat} {seen : List Nat} {b : Bool} (hc : Closed H) (hi : ev l it = some (.pointer (some ⟨nb H k, 0, none⟩)))
    (hk : L[k]? = some (some (.miter (some m) ks.length seen ks.length))) (hm : (ext H lo L).get m = some (.map (pairEs f g ks 0) ks.length b)) (hd : Nat.blt d nt = true)
    (h1 : (∀ j, j < ks.length → j ∈ seen) → SeqL P rd nt ops (o :: r) (i + 1) ⟨ofA ((d, .tuple #[.bool false]) :: l), ds, ext H lo L⟩ K)
    (h2 : ∀ j (hj : j < ks.length), j ∉ seen → ∀ L', L'.length = L.length → (∀ q, q ≠ k → L'[q]? = L[q]?) → L'[k]? = some (some (.miter (some m) ks.length (seen ++ [j]) ks.length)) → SeqL P rd nt ops (o :: r) (i + 1) ⟨ofA ((d, .tuple #[.bool true, f ks[j].1, g ks[j].2]) :: l), ds, ext H lo L'⟩ K) :
    SeqL P rd nt ops (⟨some d, .next it false, ty, pos, af, none⟩ :: o :: r) i ⟨ofA l, ds, ext H lo L⟩ K := by
  have hlt : k < L.length := (List.getElem?_eq_some_iff.1 hk).1
  refine seq_nextMap hi (ext_get_new hk) hm (nb_own _) hd h1 fun j hj hs => ?_
  exact seqL_to sub_refl (ext_put hc hlt _) (by simp) (h2 j hj hs _ List.length_set (fun _ hq => List.getElem?_set_ne (fun e => hq e.symm)) (List.getElem?_set_self hlt))
end
end Go.Den
