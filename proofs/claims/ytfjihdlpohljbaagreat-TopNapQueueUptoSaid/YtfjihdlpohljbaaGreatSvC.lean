/- HallOpens: the plain law. -/
import Derived.Test.YtfjihdlpohljbaaGreatNqO
import Derived.Test.YtfjihdlpohljbaaGreatSvB
import Derived.Test.YtfjihdlpohljbaaGreatStF
import Derived.Test.YtfjihdlpohljbaaGreatOpnD
import Derived.Test.YtfjihdlpohljbaaGreatHpB
import Derived.Test.YtfjihdlpohljbaaGreatSxM
import Derived.Test.YtfjihdlpohljbaaGreatPrL
import Derived.Test.YtfjihdlpohljbaaGreatSxQ
noncomputable section
namespace Go.Proofs.YtfjihdlpohljbaaGreat
open Go Go.Den
section
variable {t : List Tb} {l : List Bk} {b : Bk}
theorem firstL_z {l : List Int} (h : ∀ x ∈ l, x = 0) : firstL l = 0 := firstL_none fun j hj => h _ (List.getElem_mem hj)
end
end Go.Proofs.YtfjihdlpohljbaaGreat
/- Serve: the state of its walk; plain facts of a queue. -/
noncomputable section
namespace Go.Den
structure AllA {α : Type} (H : AHeap) (L : List (Option ABlk)) (m : Nat) (f : α → List Value) (K : Nat) (v : Value) (l : List α) : Prop where
  out : (l = [] ∧ v = .slice none 0 0) ∨ (v = .slice (some ⟨nb H K, 0, none⟩) l.length l.length ∧ LstX H L m f K l)
section
variable {α : Type} {H : AHeap} {lo K m : Nat} {L L' : List (Option ABlk)} {f : α → List Value} {l : List α} {v : Value}
theorem AllA.stay (h : AllA H L m f K v l) (hs : Stay L.length L L') : AllA H L' m f K v l := by
  rcases h.out with h | ⟨h1, h2⟩
  · exact ⟨.inl h⟩
  · obtain ⟨s, h3⟩ := h2.out
    exact ⟨.inr ⟨h1, s, hs.to h2.lt h3⟩⟩
theorem AllA.app (h : AllA H L m f K v l) (M : List (Option ABlk)) : AllA H (L ++ M) m f K v l := by
  rcases h.out with h | ⟨h1, h2⟩
  · exact ⟨.inl h⟩
  · exact ⟨.inr ⟨h1, h2.app M⟩⟩
theorem AllA.slice (h : AllA H L m f K v l) : ∃ p, v = .slice p l.length l.length ∧ (p = none ∨ p = some ⟨nb H K, 0, none⟩) := by
  rcases h.out with ⟨rfl, rfl⟩ | ⟨rfl, _⟩
  · exact ⟨none, rfl, .inl rfl⟩
  · exact ⟨_, rfl, .inr rfl⟩
theorem AllA.at_ {p : Option Addr} {n c : Nat} (hf : ∀ x, (f x).length = m) (h : AllA H L m f K (.slice p n c) l) : SlAt (ext H lo L) m f p l := by
  rcases h.out with ⟨rfl, e⟩ | ⟨e, h2⟩
  · exact .nil
  · cases e
    obtain ⟨s, h3⟩ := h2.out
    exact slAt_flat hf (ext_get_new h3)
end
section
variable {P : Program} {rd : Option Nat} {nt : Nat} {ops : Array Oper} {ds : List Nat} {l : EL} {H : AHeap} {lo : Nat} {L : List (Option ABlk)} {ks : List Nat} {i : Nat} {tj lc : List Nat} {K : St → Prop} {r : List Oper} {ty : TypeId} {pos : String} {af : Array Edge} {α : Type} {f : α → List Value}
theorem sg_growA [PC P] {lst xs : List α} {m k0 d : Nat} {args : Array Operand} {tys : Array TypeId} {st : TypeId} {tr : List TypeId} {v : Value} {b o' c by' z : Nat} {ag k ro : Bool} {e : TypeId} {zs cs : List Value}
    (hc : Closed H) (hv : AllA H L m f k0 v lst) (hf : ∀ x, (f x).length = m) (hone : ∀ x, (f x).all oneCell = true)
    (ha : evs l args.toList = some [v, .slice (some ⟨b, o', none⟩) xs.length c]) (hty : tys.toList = st :: st :: tr)
    (hs : selOf P st = some (m, ag)) (he : (tyOf P st).map (·.und) = some (.slice e)) (hz : zerOf P e = some zs) (hby : (tyOf P e).map (·.bytes) = some by')
    (hb : (ext H lo L).get b = some (.cells cs z k ro)) (hn : sliceIn cs o' (xs.length * m) = some (xs.flatMap f)) (hxs : xs ≠ []) (h1 : (2 * (lst.length + xs.length) + 1000) * by' ≤ 2 ^ 48) (h2 : by' ≠ 0) (h3 : m ≠ 0) (hd : Nat.blt d nt = true)
    (hok : turnOkG ops i lc = true) (htj : tj.all (fun j => Nat.testBit (befS ops i) j) = true) (hnl : lc.contains i = false) (hks : ks.contains k0 = true) (hks2 : ks.contains L.length = true)
    (hk : ∀ L', LstX H L' m f L.length (lst ++ xs) → (∀ j, j < L.length → j ≠ k0 → L'[j]? = L[j]?) → L'.length = L.length + 1 → SeqG P rd nt ops r (i + 1) ds ((d, .slice (some ⟨nb H L.length, 0, none⟩) (lst ++ xs).length (lst ++ xs).length) :: l) H lo L' ks (i :: tj) lc K) :
    SeqG P rd nt ops (⟨some d, .call ⟨.builtin .append, args, tys⟩, ty, pos, af, none⟩ :: r) i ds l H lo L ks tj lc K := by
  have hx0 : 0 < xs.length := by cases xs with | nil => exact absurd rfl hxs | cons _ _ => simp
  have hall : (xs.flatMap f).all oneCell = true := by
    rw [List.all_eq_true]
    intro x hx
    obtain ⟨y, _, hy⟩ := List.mem_flatMap.1 hx
    exact List.all_eq_true.1 (hone y) x hy
  rcases hv.out with ⟨rfl, rfl⟩ | ⟨rfl, hX⟩
  · refine sg_newS hc rfl htj hnl hks2 (do_append0 ha hty hs he hz hby hb hn (by simpa using h1) h2 h3 hx0) hd (hk _ ⟨true, ?_⟩ (fun j hj _ => List.getElem?_append_left hj) (by simp))
    exact List.getElem?_concat_length
  · obtain ⟨s, hL⟩ := hX.out
    simp only [List.length_append] at hk
    cases s with
    | false =>
      exact sg_newS hc rfl htj hnl hks2 (do_append2 ha hty hs he hz hby hb hn (ext_get_new hL) (len_flat hf lst) h1 h2 h3 hx0) hd (hk _ ⟨true, by rw [List.flatMap_append]; exact List.getElem?_concat_length⟩ (fun j hj _ => List.getElem?_append_left hj) (by simp))
    | true =>
      refine sg_push hc rfl hok htj hnl hks hks2 hL (do_append1 ha hty hs he hz hby hb hn (ext_get_new hL) (len_flat hf lst) (nb_own _) hall h1 h2 h3 hx0) hd (hk _ ⟨true, ?_⟩ ?_ (by simp))
      · have e2 : (L.set k0 none).length = L.length := List.length_set
        rw [← e2, List.flatMap_append]
        exact List.getElem?_concat_length
      · intro j hj hjk
        rw [List.getElem?_append_left (by rw [List.length_set]; exact hj), List.getElem?_set_ne (fun e => hjk e.symm)]
end
end Go.Den
namespace Go.Proofs.YtfjihdlpohljbaaGreat
open Go Go.Den
set_option maxRecDepth 100000
theorem not_in4 {a b c d n : Nat} (h : n ≠ a ∧ n ≠ b ∧ n ≠ c ∧ n ≠ d) : [a, b, c, d].contains n = false := by
  obtain ⟨h1, h2, h3, h4⟩ := h
  simp [h1, h2, h3, h4]
/-! ### requests without an error -/
structure RqOk (t : List Tb) (x : Rq) : Prop where
  l1 : 1 ≤ x.len
  l2 : x.len ≤ 96
  a1 : 0 ≤ x.arr
  a2 : x.arr ≤ 99999
  k : 0 < cntK t x.kind
theorem queE_ok {t : List Tb} {p : List Rq} {x : Rq} (h : queE t p x = 0) : RqOk t x := by
  unfold queE at h
  have ha := firstL_allZ h
  have h1 := whenL_z (ha (whenL ((cntK t x.kind : Int) == 0) 10) (by simp)) (by decide)
  have h2 := whenL_z (ha (whenL (outL x.len 1 96) 3) (by simp)) (by decide)
  have h3 := whenL_z (ha (whenL (outL x.arr 0 99999) 3) (by simp)) (by decide)
  simp only [outL, decide_eq_false_iff_not] at h2 h3
  simp only [beq_eq_false_iff_ne, ne_eq] at h1
  exact ⟨by omega, by omega, by omega, by omega, by omega⟩
theorem ques_ok {t : List Tb} {r : List Rq} (h : quesE t r = 0) : r.length ≤ 256 ∧ ∀ x ∈ r, RqOk t x := by
  unfold quesE at h
  by_cases hl : r.length > 256
  · rw [if_pos hl] at h; exact absurd h (by decide)
  · rw [if_neg hl] at h
    refine ⟨by omega, fun x hx => ?_⟩
    obtain ⟨i, hi, rfl⟩ := List.getElem_of_mem hx
    exact queE_ok (restG_zero (err := queE t) h hi)
/-! ### the floor of a request -/
theorem flr_fold {k : ByteArray} : ∀ {ps : List (Rq × Int)} {a b : Int}, ps.foldl (flrS k) (max a b) = max a (ps.foldl (flrS k) b)
  | [], _, _ => rfl
  | p :: ps, a, b => by
    rw [List.foldl_cons, List.foldl_cons]
    have e : flrS k (max a b) p = max a (flrS k b p) := by
      unfold flrS
      split
      · omega
      · rfl
    rw [e]; exact flr_fold
theorem flrB_max {r : List Rq} {out : List Int} {k : ByteArray} {arr : Int} {j : Nat} (h : 0 ≤ arr) : flrB r out k arr j = max arr (flrB r out k 0 j) := by
  unfold flrB
  rw [← flr_fold]
  congr 1
  omega
theorem flr_bd {k : ByteArray} {B : Int} : ∀ {ps : List (Rq × Int)} {m : Int}, m ≤ B → (∀ p ∈ ps, p.2 ≤ B) → m ≤ ps.foldl (flrS k) m ∧ ps.foldl (flrS k) m ≤ B
  | [], m, h, _ => ⟨Int.le_refl _, h⟩
  | p :: ps, m, h, hp => by
    rw [List.foldl_cons]
    have h1 := hp p (List.mem_cons_self ..)
    have h2 : m ≤ flrS k m p ∧ flrS k m p ≤ B := by
      unfold flrS
      split <;> omega
    obtain ⟨h3, h4⟩ := flr_bd (k := k) (ps := ps) h2.2 fun q hq => hp q (List.mem_cons_of_mem _ hq)
    exact ⟨by omega, h4⟩
theorem flrB_snoc {r : List Rq} {out : List Int} {k : ByteArray} {arr s : Int} (hl : out.length < r.length) : flrB r (out ++ [s]) k arr (out.length + 1) = flrS k (flrB r out k arr out.length) (r[out.length], s) := by
  have e1 : (out ++ [s]).take (out.length + 1) = out ++ [s] := List.take_of_length_le (by simp)
  have e2 : out.take out.length = out := List.take_length
  unfold flrB
  rw [take_snoc hl, e1, e2, List.zip_append (by rw [List.length_take]; omega), List.foldl_append]; rfl
theorem allB_snoc {l : List Bk} {r : List Rq} {out : List Int} {s : Int} (hl : out.length < r.length) : allB l r (out ++ [s]) (out.length + 1) = allB l r out out.length ++ [bkR r[out.length] s] := by
  have e1 : (out ++ [s]).take (out.length + 1) = out ++ [s] := List.take_of_length_le (by simp)
  have e2 : out.take out.length = out := List.take_length
  unfold allB
  rw [take_snoc hl, e1, e2, List.zipWith_append (by rw [List.length_take]; omega), List.append_assoc]; rfl
theorem allB_zero {l : List Bk} {r : List Rq} : allB l r [] 0 = l := by simp [allB]
theorem allB_len {l : List Bk} {r : List Rq} {out : List Int} (hl : out.length ≤ r.length) : (allB l r out out.length).length = l.length + out.length := by
  unfold allB
  rw [List.length_append, List.length_zipWith, List.length_take, List.length_take]
  omega
section
variable {t : List Tb} {l : List Bk} {r : List Rq} {out : List Int}
theorem SvI.bd (h : SvI t l r out) (hr : ∀ x ∈ r, RqOk t x) {j : Nat} (hj : j < out.length) : 0 ≤ out[j] ∧ out[j] ≤ 99998 := by
  have hjr : j < r.length := by have := h.len; omega
  obtain ⟨h1, h2⟩ := h.at_ j hj hjr
  have ok := hr _ (List.getElem_mem hjr)
  have h3 := h1.ge
  rw [flrB_max ok.a1] at h3
  have := ok.a1
  have := ok.l1
  omega
theorem SvI.flr (h : SvI t l r out) (hr : ∀ x ∈ r, RqOk t x) (k : ByteArray) : 0 ≤ flrB r out k 0 out.length ∧ flrB r out k 0 out.length ≤ 99999 := by
  unfold flrB
  refine flr_bd (by omega) fun p hp => ?_
  have hm := (List.of_mem_zip hp).2
  rw [List.take_length] at hm
  obtain ⟨j, hj, e⟩ := List.getElem_of_mem hm
  have := h.bd hr hj
  omega
theorem SvI.to_ (h : SvI t l r out) (hr : ∀ x ∈ r, RqOk t x) (hl : ∀ x ∈ l, BkOk x) : ∀ x ∈ allB l r out out.length, 0 ≤ x.to ∧ x.to ≤ 99999 := fun x hx => by
  unfold allB at hx
  rcases List.mem_append.1 hx with hx | hx
  · have := hl x hx; exact ⟨this.t0, this.t1⟩
  · obtain ⟨i, hi, e⟩ := List.getElem_of_mem hx
    rw [List.length_zipWith, List.length_take, List.length_take] at hi
    have hl := h.len
    have hj : i < out.length := by omega
    have hjr : i < r.length := by omega
    rw [List.getElem_zipWith, List.getElem_take, List.getElem_take] at e
    subst e
    have b1 := h.bd hr hj
    have b2 := (h.at_ i hj hjr).2
    have b3 := (hr _ (List.getElem_mem hjr)).l1
    exact ⟨by simp only [bkR]; omega, by simp only [bkR]; omega⟩
end
theorem try_bd {l : List Bk} {k : ByteArray} {fl q : Int} (hfl : 0 ≤ fl ∧ fl ≤ 99999) (hl : ∀ x ∈ l, 0 ≤ x.to ∧ x.to ≤ 99999) (h : q ∈ tryL l k fl) : 0 ≤ q ∧ q ≤ 99999 := by
  rcases mem_tryL.1 h with rfl | ⟨h1, x, hx, _, rfl⟩
  · exact hfl
  · exact hl x hx
theorem try_first {t : List Tb} {l : List Bk} {w : Rq} {fl : Int} (hk : 0 < cntK t w.kind) (hl : 1 ≤ w.len) : ∃ i, ∃ h : i < (tryL l w.kind fl).length, roomB t l (bkR w (tryL l w.kind fl)[i]) = true ∧ (∀ j (hj : j < (tryL l w.kind fl).length), j < i → roomB t l (bkR w (tryL l w.kind fl)[j]) = false) ∧ Least t l w.kind fl w.len (tryL l w.kind fl)[i] := by
  obtain ⟨U, hU⟩ : ∃ U, U = tryL l w.kind fl := ⟨_, rfl⟩
  have key : ∀ s, roomB t l (bkR w s) = true ↔ RoomP t l w.kind s w.len := fun s => by
    have e : s + w.len - s = w.len := by omega
    have := roomB_iff (t := t) (l := l) (b := bkR w s) (by simp only [bkR]; omega)
    simp only [bkR, e] at this
    exact this
  obtain ⟨i, hi, hr⟩ := try_some (t := t) (l := l) (fl := fl) (len := w.len) hk
  have hex : ∃ x ∈ tryL l w.kind fl, roomB t l (bkR w x) = true := ⟨_, List.getElem_mem hi, (key _).2 hr⟩
  have hlt := List.findIdx_lt_length_of_exists hex
  have h1 := List.findIdx_getElem (w := hlt)
  have h2 : ∀ j (hj : j < (tryL l w.kind fl).length), j < (tryL l w.kind fl).findIdx (fun x => roomB t l (bkR w x)) → roomB t l (bkR w (tryL l w.kind fl)[j]) = false := fun j hj hji => by
    have := List.not_of_lt_findIdx hji
    simpa using this
  refine ⟨_, hlt, h1, h2, try_least (by omega) hlt ((key _).1 h1) fun j hj hji hp => ?_⟩
  have := h2 j hj hji
  rw [(key _).2 hp] at this
  cases this
/-! ### what Serve answers -/
def srvE (t : List Tb) (l : List Bk) (w : List Rq) : Int := if firstL [bothE t l, quesE t w] ≠ 0 then firstL [bothE t l, quesE t w] else if fitB t l = false then 23 else if (srvV t l w).isNone = true then 4 else 0
def srvO (t : List Tb) (l : List Bk) (w : List Rq) : List Int := if srvE t l w = 0 then (srvV t l w).getD [] else []
theorem srv_bad {t : List Tb} {l : List Bk} {w : List Rq} (h : firstL [bothE t l, quesE t w] ≠ 0) : srvE t l w = firstL [bothE t l, quesE t w] ∧ srvO t l w = [] := by
  have e : srvE t l w = firstL [bothE t l, quesE t w] := if_pos h
  exact ⟨e, if_neg (by rw [e]; exact h)⟩
theorem srv_unfit {t : List Tb} {l : List Bk} {w : List Rq} (h : firstL [bothE t l, quesE t w] = 0) (h2 : fitB t l = false) : srvE t l w = 23 ∧ srvO t l w = [] := by
  have e : srvE t l w = 23 := by
    unfold srvE
    rw [if_neg (by rw [h]; simp), if_pos h2]
  exact ⟨e, if_neg (by rw [e]; decide)⟩
theorem srv_late {t : List Tb} {l : List Bk} {w : List Rq} (h : firstL [bothE t l, quesE t w] = 0) (h2 : fitB t l = true) (h3 : SvLate t l w) : srvE t l w = 4 ∧ srvO t l w = [] := by
  have e : srvE t l w = 4 := by
    unfold srvE
    rw [if_neg (by rw [h]; simp), if_neg (by rw [h2]; simp), srvV_none h3]; rfl
  exact ⟨e, if_neg (by rw [e]; decide)⟩
theorem srv_done {t : List Tb} {l : List Bk} {w : List Rq} {out : List Int} (h : firstL [bothE t l, quesE t w] = 0) (h2 : fitB t l = true) (h3 : SvI t l w out) (h4 : out.length = w.length) : srvE t l w = 0 ∧ srvO t l w = out := by
  have e : srvE t l w = 0 := by
    unfold srvE
    rw [if_neg (by rw [h]; simp), if_neg (by rw [h2]; simp), srvV_some h3 h4]; rfl
  refine ⟨e, ?_⟩
  have e2 : srvO t l w = (srvV t l w).getD [] := if_pos e
  rw [e2, srvV_some h3 h4]; rfl
theorem srvV_spec {t : List Tb} {l : List Bk} {w : List Rq} {out : List Int} (h : srvV t l w = some out) : SvI t l w out ∧ out.length = w.length := by
  unfold srvV at h
  split at h
  · rename_i hx
    cases h
    exact hx.choose_spec
  · cases h
structure SvW (H : AHeap) (q : Option Addr) (c K9 Km : Nat) (t : List Tb) (l : List Bk) (w : List Rq) (out : List Int) (ms : List (ByteArray × Int)) (L : List (Option ABlk)) (Ka : Nat) (va : Value) (Ko : Nat) (vo : Value) : Prop where
  box : L[0]? = some (some (.cells [.slice q t.length c] 0 false false))
  cel : L[K9]? = some (some (.cells [va] 0 false false))
  k9 : 0 < K9
  mp : L[Km]? = some (some (pairM strV (fun n : Int => I n) ms))
  al : AllA H L 4 bk Ka va (allB l w out out.length)
  ou : LstI H L 1 i1 Ko vo out
  sv : SvI t l w out
  ms : ∀ k, (getK ms k).getD 0 = flrB w out k 0 out.length
  ka0 : 0 < Ka
  ka9 : Ka ≠ K9
  kam : Ka ≠ Km
  kaL : Ka < L.length
section
variable {H : AHeap} {q : Option Addr} {c K9 Km : Nat} {t : List Tb} {l : List Bk} {w : List Rq} {out : List Int} {ms : List (ByteArray × Int)} {L : List (Option ABlk)} {Ka : Nat} {va : Value} {Ko : Nat} {vo : Value}
theorem SvW.ko (h : SvW H q c K9 Km t l w out ms L Ka va Ko vo) (hne : out ≠ []) : Ko ≠ 0 ∧ Ko ≠ K9 ∧ Ko ≠ Km ∧ Ko ≠ Ka ∧ Ko < L.length := by
  obtain ⟨_, hL⟩ := h.ou.at_ hne
  refine ⟨fun e => ?_, fun e => ?_, fun e => ?_, fun e => ?_, (List.getElem?_eq_some_iff.1 hL).1⟩
  · rw [e, h.box] at hL; simp at hL
  · rw [e, h.cel] at hL; simp at hL
  · rw [e, h.mp] at hL; cases hL
  · rcases h.al.out with ⟨e2, _⟩ | ⟨_, hX⟩
    · have := allB_len (l := l) (r := w) h.sv.len
      rw [e2] at this
      have h0 : out.length = 0 := by simp at this; omega
      exact hne (List.length_eq_zero_iff.1 h0)
    · obtain ⟨s, h3⟩ := hX.out
      rw [e, h3] at hL; simp at hL
theorem SvW.k9m (h : SvW H q c K9 Km t l w out ms L Ka va Ko vo) : K9 ≠ Km ∧ Km ≠ 0 := by
  refine ⟨fun e => ?_, fun e => ?_⟩
  · have h1 := h.cel
    rw [e, h.mp] at h1; cases h1
  · have h1 := h.box
    rw [← e, h.mp] at h1; cases h1
theorem SvW.msPut (h : SvW H q c K9 Km t l w out ms L Ka va Ko vo) (hl : out.length < w.length) (hr : ∀ x ∈ w, RqOk t x) {s : Int} (hs : flrB w out w[out.length].kind w[out.length].arr out.length ≤ s) : ∀ k, (getK (putK ms w[out.length].kind s) k).getD 0 = flrB w (out ++ [s]) k 0 (out.length + 1) := fun k => by
  rw [getK_put, flrB_snoc hl]
  have e := h.ms k
  unfold flrS
  by_cases hk : w[out.length].kind = k
  · subst hk
    rw [if_pos rfl, if_pos rfl, Option.getD_some]
    rw [flrB_max (hr _ (List.getElem_mem hl)).a1] at hs
    omega
  · rw [if_neg hk, if_neg hk]; exact e
end
end Go.Proofs.YtfjihdlpohljbaaGreat
