/- HallTurns: the plain law. -/
import Derived.Test.YtfjihdlpohljbaaGreatSvC
import Derived.Test.YtfjihdlpohljbaaGreatOpnD
noncomputable section
namespace Go.Proofs.YtfjihdlpohljbaaGreat
open Go Go.Den
set_option maxRecDepth 100000
theorem when_out {n a b : Int} {e : Int} (h : a ≤ n ∧ n ≤ b) : whenL (outL n a b) e = 0 := by
  have : outL n a b = false := by
    simp only [outL, decide_eq_false_iff_not]; omega
  rw [this]; rfl
theorem bkR_ok {t : List Tb} {p : List Rq} {x : Rq} {s : Int} (h : queE t p x = 0) (h0 : 0 ≤ s) (h1 : s + x.len ≤ 99999) : bookE (bkR x s) = 0 := by
  have hn : nameE [x.name, x.kind] = 0 := by
    unfold queE at h
    exact firstL_allZ h _ (by simp)
  have ok := (queE_ok h).l1
  refine firstL_z fun y hy => ?_
  simp only [List.mem_cons, List.not_mem_nil, or_false] at hy
  rcases hy with rfl | rfl | rfl | rfl
  · exact hn
  · exact when_out (by simp only [bkR]; omega)
  · exact when_out (by simp only [bkR]; omega)
  · have : decide ((bkR x s).to ≤ (bkR x s).frm) = false := decide_eq_false (by simp only [bkR]; omega)
    rw [this]; rfl
theorem both_snoc {t : List Tb} {l : List Bk} {b : Bk} (h : bothE t l = 0) (hb : bookE b = 0) (hk : 0 < cntK t b.kind) (hl : l.length < 256) : bothE t (l ++ [b]) = 0 := by
  have ha := firstL_allZ h
  have h1 : tabsE t = 0 := ha _ (by simp)
  have h2 : booksE l = 0 := ha _ (by simp)
  have h3 := whenL_z (ha (whenL (unkB t l) 10) (by simp)) (by decide)
  have h4 : booksE (l ++ [b]) = 0 := by
    unfold booksE at h2 ⊢
    rw [if_neg (by omega)] at h2
    rw [if_neg (by rw [List.length_append, List.length_singleton]; omega)]
    refine restG_none fun j hj => ?_
    rw [errG_at (err := fun _ x => bookE x) hj]
    by_cases e : j < l.length
    · rw [List.getElem_append_left e]
      exact restG_zero (err := fun _ x => bookE x) h2 e
    · have e2 : j = l.length := by rw [List.length_append, List.length_singleton] at hj; omega
      subst e2
      rw [List.getElem_concat_length rfl]; exact hb
  have h5 : unkB t (l ++ [b]) = false := by
    unfold unkB at h3 ⊢
    rw [List.any_append, h3]
    have : ((cntK t b.kind : Int) == 0) = false := by simp only [beq_eq_false_iff_ne, ne_eq]; omega
    simp [this]
  unfold bothE
  rw [h1, h4, h5]; rfl
theorem allB_succ {l : List Bk} {r : List Rq} {out : List Int} {j : Nat} (h1 : j < r.length) (h2 : j < out.length) : allB l r out (j + 1) = allB l r out j ++ [bkR r[j] out[j]] := by
  unfold allB
  rw [take_snoc h1, take_snoc h2, List.zipWith_append (by rw [List.length_take, List.length_take]; omega), List.append_assoc]; rfl
theorem allB_zeroO {l : List Bk} {r : List Rq} {out : List Int} : allB l r out 0 = l := by simp [allB]
theorem allB_lenJ {l : List Bk} {r : List Rq} {out : List Int} {j : Nat} (h1 : j ≤ r.length) (h2 : j ≤ out.length) : (allB l r out j).length = l.length + j := by
  unfold allB
  rw [List.length_append, List.length_zipWith, List.length_take, List.length_take]
  omega
section
variable {t : List Tb} {l : List Bk} {w : List Rq} {out : List Int}
theorem ques_at (h : quesE t w = 0) {i : Nat} (hi : i < w.length) : queE t (w.take i) w[i] = 0 := by
  unfold quesE at h
  by_cases hl : w.length > 256
  · rw [if_pos hl] at h; exact absurd h (by decide)
  · rw [if_neg hl] at h
    exact restG_zero (err := queE t) h hi
theorem SvI.book (h : SvI t l w out) (hq : quesE t w = 0) {j : Nat} (hj : j < out.length) (hw : j < w.length) : bookE (bkR w[j] out[j]) = 0 := by
  have hb := h.bd (ques_ok hq).2 hj
  exact bkR_ok (ques_at hq hw) hb.1 (h.at_ j hj hw).2
theorem SvI.both (h : SvI t l w out) (hb : bothE t l = 0) (hq : quesE t w = 0) (hl : l.length + w.length < 256) : ∀ j, j ≤ out.length → bothE t (allB l w out j) = 0
  | 0, _ => by
    have : allB l w out 0 = l := by simp [allB]
    rw [this]; exact hb
  | j + 1, hj => by
    have hlen := h.len
    have hw : j < w.length := by omega
    rw [allB_succ hw (by omega)]
    have ok := (ques_ok hq).2 _ (List.getElem_mem hw)
    exact both_snoc (h.both hb hq hl j (by omega)) (h.book hq (by omega) hw) ok.k (by rw [allB_lenJ (by omega) (by omega)]; omega)
theorem SvI.fits (h : SvI t l w out) (hf : FitP t l) : ∀ j, j ≤ out.length → FitP t (allB l w out j)
  | 0, _ => by
    have : allB l w out 0 = l := by simp [allB]
    rw [this]; exact hf
  | j + 1, hj => by
    have hlen := h.len
    have hw : j < w.length := by omega
    rw [allB_succ hw (by omega)]
    have := (h.at_ j (by omega) hw).1.room
    refine fit_room.2 ⟨h.fits hf j (by omega), ?_⟩
    have e : out[j] + w[j].len - out[j] = w[j].len := by omega
    simp only [bkR, e]; exact this
end
theorem srv_any {t : List Tb} {l : List Bk} {w : List Rq} (hb : bothE t l = 0) (hq : quesE t w = 0) : (srvE t l w ≠ 0 ∧ srvO t l w = [] ∧ (srvE t l w = 23 ∨ srvE t l w = 4)) ∨ (srvE t l w = 0 ∧ SvI t l w (srvO t l w) ∧ (srvO t l w).length = w.length ∧ FitP t l) := by
  have h1 : firstL [bothE t l, quesE t w] = 0 := firstL_z fun x hx => by
    simp only [List.mem_cons, List.not_mem_nil, or_false] at hx
    rcases hx with rfl | rfl
    · exact hb
    · exact hq
  cases hf : fitB t l
  · obtain ⟨e1, e2⟩ := srv_unfit h1 hf
    exact .inl ⟨by rw [e1]; decide, e2, .inl e1⟩
  · cases hv : srvV t l w with
    | none =>
      have e : srvE t l w = 4 := by
        unfold srvE
        rw [if_neg (by rw [h1]; simp), if_neg (by rw [hf]; simp), hv]; rfl
      exact .inl ⟨by rw [e]; decide, if_neg (by rw [e]; decide), .inr e⟩
    | some o =>
      obtain ⟨s1, s2⟩ := srvV_spec hv
      obtain ⟨e1, e2⟩ := srv_done h1 hf s1 s2
      rw [e2]
      exact .inr ⟨e1, s1, s2, (both_ok hb).fit.1 hf⟩
end Go.Proofs.YtfjihdlpohljbaaGreat
