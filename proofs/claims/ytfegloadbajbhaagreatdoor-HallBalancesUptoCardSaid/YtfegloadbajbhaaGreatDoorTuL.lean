/- Serve: the state of its walk; plain facts of a queue. -/
import Derived.Test.YtfegloadbajbhaaGreatDoorOpsL
import Derived.Test.YtfegloadbajbhaaGreatDoorStA
import Derived.Test.YtfegloadbajbhaaGreatDoorBgH
import Derived.Test.YtfegloadbajbhaaGreatDoorBaL
noncomputable section
namespace Go.Den
/-- a list whose room is known or not, or no list -/
structure AllA {α : Type} (H : AHeap) (L : List (Option ABlk)) (m : Nat) (f : α → List Value) (K : Nat) (v : Value) (l : List α) : Prop where
  out : (l = [] ∧ v = .slice none 0 0) ∨ (v = .slice (some ⟨nb H K, 0, none⟩) l.length l.length ∧ LstX H L m f K l)
section
variable {α : Type} {H : AHeap} {lo K m : Nat} {L L' : List (Option ABlk)} {f : α → List Value} {l : List α} {v : Value}
theorem AllA.stay (h : AllA H L m f K v l) (hs : Stay L.length L L') : AllA H L' m f K v l := by
  rcases h.out with h | ⟨h1, h2⟩
  · exact ⟨.inl h⟩
  · obtain ⟨s, h3⟩ := h2.out
    exact ⟨.inr ⟨h1, s, hs.to h2.lt h3⟩⟩
theorem AllA.app (h : AllA H L m f K v l) (M : List (Option ABlk)) : AllA H (L ++ M) m f K v l := by
  rcases h.out with h | ⟨h1, h2⟩
  · exact ⟨.inl h⟩
  · exact ⟨.inr ⟨h1, h2.app M⟩⟩
theorem AllA.slice (h : AllA H L m f K v l) : ∃ p, v = .slice p l.length l.length ∧ (p = none ∨ p = some ⟨nb H K, 0, none⟩) := by
  rcases h.out with ⟨rfl, rfl⟩ | ⟨rfl, _⟩
  · exact ⟨none, rfl, .inl rfl⟩
  · exact ⟨_, rfl, .inr rfl⟩
theorem AllA.at_ {p : Option Addr} {n c : Nat} (hf : ∀ x, (f x).length = m) (h : AllA H L m f K (.slice p n c) l) : SlAt (ext H lo L) m f p l := by
  rcases h.out with ⟨rfl, e⟩ | ⟨e, h2⟩
  · exact .nil
  · cases e
    obtain ⟨s, h3⟩ := h2.out
    exact slAt_flat hf (ext_get_new h3)
end
section
variable {P : Program} {rd : Option Nat} {nt : Nat} {ops : Array Oper} {ds : List Nat} {l : EL} {H : AHeap} {lo : Nat} {L : List (Option ABlk)} {ks : List Nat} {i : Nat} {tj lc : List Nat} {K : St → Prop} {r : List Oper} {ty : TypeId} {pos : String} {af : Array Edge} {α : Type} {f : α → List Value}
end
end Go.Den
namespace Go.Proofs.YtfegloadbajbhaaGreatDoor
open Go Go.Den
set_option maxRecDepth 100000
/-! ### requests without an error -/
structure RqOk (t : List Tb) (x : Rq) : Prop where
  l1 : 1 ≤ x.len
  l2 : x.len ≤ 96
  a1 : 0 ≤ x.arr
  a2 : x.arr ≤ 99999
  k : 0 < cntK t x.kind
theorem queE_ok {t : List Tb} {p : List Rq} {x : Rq} (h : queE t p x = 0) : RqOk t x := by
  unfold queE at h
  have ha := firstL_allZ h
  have h1 := whenL_z (ha (whenL ((cntK t x.kind : Int) == 0) 10) (by simp)) (by decide)
  have h2 := whenL_z (ha (whenL (outL x.len 1 96) 3) (by simp)) (by decide)
  have h3 := whenL_z (ha (whenL (outL x.arr 0 99999) 3) (by simp)) (by decide)
  simp only [outL, decide_eq_false_iff_not] at h2 h3
  simp only [beq_eq_false_iff_ne, ne_eq] at h1
  exact ⟨by omega, by omega, by omega, by omega, by omega⟩
theorem ques_ok {t : List Tb} {r : List Rq} (h : quesE t r = 0) : r.length ≤ 256 ∧ ∀ x ∈ r, RqOk t x := by
  unfold quesE at h
  by_cases hl : r.length > 256
  · rw [if_pos hl] at h; exact absurd h (by decide)
  · rw [if_neg hl] at h
    refine ⟨by omega, fun x hx => ?_⟩
    obtain ⟨i, hi, rfl⟩ := List.getElem_of_mem hx
    exact queE_ok (restG_zero (err := queE t) h hi)
/-! ### the floor of a request -/
theorem flr_fold {k : ByteArray} : ∀ {ps : List (Rq × Int)} {a b : Int}, ps.foldl (flrS k) (max a b) = max a (ps.foldl (flrS k) b)
  | [], _, _ => rfl
  | p :: ps, a, b => by
    rw [List.foldl_cons, List.foldl_cons]
    have e : flrS k (max a b) p = max a (flrS k b p) := by
      unfold flrS
      split
      · omega
      · rfl
    rw [e]; exact flr_fold
theorem flrB_max {r : List Rq} {out : List Int} {k : ByteArray} {arr : Int} {j : Nat} (h : 0 ≤ arr) : flrB r out k arr j = max arr (flrB r out k 0 j) := by
  unfold flrB
  rw [← flr_fold]
  congr 1
  omega
section
variable {t : List Tb} {l : List Bk} {r : List Rq} {out : List Int}
theorem SvI.bd (h : SvI t l r out) (hr : ∀ x ∈ r, RqOk t x) {j : Nat} (hj : j < out.length) : 0 ≤ out[j] ∧ out[j] ≤ 99998 := by
  have hjr : j < r.length := by have := h.len; omega
  obtain ⟨h1, h2⟩ := h.at_ j hj hjr
  have ok := hr _ (List.getElem_mem hjr)
  have h3 := h1.ge
  rw [flrB_max ok.a1] at h3
  have := ok.a1
  have := ok.l1
  omega
/-- all bookings end in time -/
theorem SvI.to_ (h : SvI t l r out) (hr : ∀ x ∈ r, RqOk t x) (hl : ∀ x ∈ l, BkOk x) : ∀ x ∈ allB l r out out.length, 0 ≤ x.to ∧ x.to ≤ 99999 := fun x hx => by
  unfold allB at hx
  rcases List.mem_append.1 hx with hx | hx
  · have := hl x hx; exact ⟨this.t0, this.t1⟩
  · obtain ⟨i, hi, e⟩ := List.getElem_of_mem hx
    rw [List.length_zipWith, List.length_take, List.length_take] at hi
    have hl := h.len
    have hj : i < out.length := by omega
    have hjr : i < r.length := by omega
    rw [List.getElem_zipWith, List.getElem_take, List.getElem_take] at e
    subst e
    have b1 := h.bd hr hj
    have b2 := (h.at_ i hj hjr).2
    have b3 := (hr _ (List.getElem_mem hjr)).l1
    exact ⟨by simp only [bkR]; omega, by simp only [bkR]; omega⟩
end
/-! ### what Serve answers -/
section
variable {H : AHeap} {q : Option Addr} {c K9 Km : Nat} {t : List Tb} {l : List Bk} {w : List Rq} {out : List Int} {ms : List (ByteArray × Int)} {L : List (Option ABlk)} {Ka : Nat} {va : Value} {Ko : Nat} {vo : Value}
end
end Go.Proofs.YtfegloadbajbhaaGreatDoor
/- HallTurns: the plain law. -/
noncomputable section
namespace Go.Proofs.YtfegloadbajbhaaGreatDoor
open Go Go.Den
set_option maxRecDepth 100000
theorem when_out {n a b : Int} {e : Int} (h : a ≤ n ∧ n ≤ b) : whenL (outL n a b) e = 0 := by
  have : outL n a b = false := by
    simp only [outL, decide_eq_false_iff_not]; omega
  rw [this]; rfl
theorem bkR_ok {t : List Tb} {p : List Rq} {x : Rq} {s : Int} (h : queE t p x = 0) (h0 : 0 ≤ s) (h1 : s + x.len ≤ 99999) : bookE (bkR x s) = 0 := by
  have hn : nameE [x.name, x.kind] = 0 := by
    unfold queE at h
    exact firstL_allZ h _ (by simp)
  have ok := (queE_ok h).l1
  refine firstL_z fun y hy => ?_
  simp only [List.mem_cons, List.not_mem_nil, or_false] at hy
  rcases hy with rfl | rfl | rfl | rfl
  · exact hn
  · exact when_out (by simp only [bkR]; omega)
  · exact when_out (by simp only [bkR]; omega)
  · have : decide ((bkR x s).to ≤ (bkR x s).frm) = false := decide_eq_false (by simp only [bkR]; omega)
    rw [this]; rfl
theorem both_snoc {t : List Tb} {l : List Bk} {b : Bk} (h : bothE t l = 0) (hb : bookE b = 0) (hk : 0 < cntK t b.kind) (hl : l.length < 256) : bothE t (l ++ [b]) = 0 := by
  have ha := firstL_allZ h
  have h1 : tabsE t = 0 := ha _ (by simp)
  have h2 : booksE l = 0 := ha _ (by simp)
  have h3 := whenL_z (ha (whenL (unkB t l) 10) (by simp)) (by decide)
  have h4 : booksE (l ++ [b]) = 0 := by
    unfold booksE at h2 ⊢
    rw [if_neg (by omega)] at h2
    rw [if_neg (by rw [List.length_append, List.length_singleton]; omega)]
    refine restG_none fun j hj => ?_
    rw [errG_at (err := fun _ x => bookE x) hj]
    by_cases e : j < l.length
    · rw [List.getElem_append_left e]
      exact restG_zero (err := fun _ x => bookE x) h2 e
    · have e2 : j = l.length := by rw [List.length_append, List.length_singleton] at hj; omega
      subst e2
      rw [List.getElem_concat_length rfl]; exact hb
  have h5 : unkB t (l ++ [b]) = false := by
    unfold unkB at h3 ⊢
    rw [List.any_append, h3]
    have : ((cntK t b.kind : Int) == 0) = false := by simp only [beq_eq_false_iff_ne, ne_eq]; omega
    simp [this]
  unfold bothE
  rw [h1, h4, h5]; rfl
theorem allB_succ {l : List Bk} {r : List Rq} {out : List Int} {j : Nat} (h1 : j < r.length) (h2 : j < out.length) : allB l r out (j + 1) = allB l r out j ++ [bkR r[j] out[j]] := by
  unfold allB
  rw [take_snoc h1, take_snoc h2, List.zipWith_append (by rw [List.length_take, List.length_take]; omega), List.append_assoc]; rfl
theorem allB_lenJ {l : List Bk} {r : List Rq} {out : List Int} {j : Nat} (h1 : j ≤ r.length) (h2 : j ≤ out.length) : (allB l r out j).length = l.length + j := by
  unfold allB
  rw [List.length_append, List.length_zipWith, List.length_take, List.length_take]
  omega
section
variable {t : List Tb} {l : List Bk} {w : List Rq} {out : List Int}
theorem ques_at (h : quesE t w = 0) {i : Nat} (hi : i < w.length) : queE t (w.take i) w[i] = 0 := by
  unfold quesE at h
  by_cases hl : w.length > 256
  · rw [if_pos hl] at h; exact absurd h (by decide)
  · rw [if_neg hl] at h
    exact restG_zero (err := queE t) h hi
/-- a booking of somebody who is served -/
theorem SvI.book (h : SvI t l w out) (hq : quesE t w = 0) {j : Nat} (hj : j < out.length) (hw : j < w.length) : bookE (bkR w[j] out[j]) = 0 := by
  have hb := h.bd (ques_ok hq).2 hj
  exact bkR_ok (ques_at hq hw) hb.1 (h.at_ j hj hw).2
theorem SvI.both (h : SvI t l w out) (hb : bothE t l = 0) (hq : quesE t w = 0) (hl : l.length + w.length < 256) : ∀ j, j ≤ out.length → bothE t (allB l w out j) = 0
  | 0, _ => by
    have : allB l w out 0 = l := by simp [allB]
    rw [this]; exact hb
  | j + 1, hj => by
    have hlen := h.len
    have hw : j < w.length := by omega
    rw [allB_succ hw (by omega)]
    have ok := (ques_ok hq).2 _ (List.getElem_mem hw)
    exact both_snoc (h.both hb hq hl j (by omega)) (h.book hq (by omega) hw) ok.k (by rw [allB_lenJ (by omega) (by omega)]; omega)
/-- fewer requests -/
theorem SvI.cut (h : SvI t l w out) (m : Nat) : SvI t l (w.take m) (out.take m) := by
  have hlen := h.len
  refine ⟨by rw [List.length_take, List.length_take]; omega, fun j h1 h2 => ?_⟩
  rw [List.length_take] at h1 h2
  have hj : j < out.length := by omega
  have hw : j < w.length := by omega
  have a := h.at_ j hj hw
  have e1 : allB l (w.take m) (out.take m) j = allB l w out j := by
    unfold allB
    rw [List.take_take, List.take_take, Nat.min_eq_left (by omega)]
  have e2 : ∀ k arr, flrB (w.take m) (out.take m) k arr j = flrB w out k arr j := fun k arr => by
    unfold flrB
    rw [List.take_take, List.take_take, Nat.min_eq_left (by omega)]
  rw [e1, e2, List.getElem_take, List.getElem_take]
  exact a
end
end Go.Proofs.YtfegloadbajbhaaGreatDoor
