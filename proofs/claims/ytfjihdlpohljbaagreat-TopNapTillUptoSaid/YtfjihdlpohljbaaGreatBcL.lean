/- HallTurns: the plain law. -/
import Derived.Test.YtfjihdlpohljbaaGreatSvC
import Derived.Test.YtfjihdlpohljbaaGreatOpnE
import Derived.Test.YtfjihdlpohljbaaGreatBcD
import Derived.Test.YtfjihdlpohljbaaGreatShB
noncomputable section
namespace Go.Proofs.YtfjihdlpohljbaaGreat
open Go Go.Den
set_option maxRecDepth 100000
theorem when_out {n a b : Int} {e : Int} (h : a ≤ n ∧ n ≤ b) : whenL (outL n a b) e = 0 := by
  have : outL n a b = false := by
    simp only [outL, decide_eq_false_iff_not]; omega
  rw [this]; rfl
theorem bkR_ok {t : List Tb} {p : List Rq} {x : Rq} {s : Int} (h : queE t p x = 0) (h0 : 0 ≤ s) (h1 : s + x.len ≤ 99999) : bookE (bkR x s) = 0 := by
  have hn : nameE [x.name, x.kind] = 0 := by
    unfold queE at h
    exact firstL_allZ h _ (by simp)
  have ok := (queE_ok h).l1
  refine firstL_z fun y hy => ?_
  simp only [List.mem_cons, List.not_mem_nil, or_false] at hy
  rcases hy with rfl | rfl | rfl | rfl
  · exact hn
  · exact when_out (by simp only [bkR]; omega)
  · exact when_out (by simp only [bkR]; omega)
  · have : decide ((bkR x s).to ≤ (bkR x s).frm) = false := decide_eq_false (by simp only [bkR]; omega)
    rw [this]; rfl
theorem both_snoc {t : List Tb} {l : List Bk} {b : Bk} (h : bothE t l = 0) (hb : bookE b = 0) (hk : 0 < cntK t b.kind) (hl : l.length < 256) : bothE t (l ++ [b]) = 0 := by
  have ha := firstL_allZ h
  have h1 : tabsE t = 0 := ha _ (by simp)
  have h2 : booksE l = 0 := ha _ (by simp)
  have h3 := whenL_z (ha (whenL (unkB t l) 10) (by simp)) (by decide)
  have h4 : booksE (l ++ [b]) = 0 := by
    unfold booksE at h2 ⊢
    rw [if_neg (by omega)] at h2
    rw [if_neg (by rw [List.length_append, List.length_singleton]; omega)]
    refine restG_none fun j hj => ?_
    rw [errG_at (err := fun _ x => bookE x) hj]
    by_cases e : j < l.length
    · rw [List.getElem_append_left e]
      exact restG_zero (err := fun _ x => bookE x) h2 e
    · have e2 : j = l.length := by rw [List.length_append, List.length_singleton] at hj; omega
      subst e2
      rw [List.getElem_concat_length rfl]; exact hb
  have h5 : unkB t (l ++ [b]) = false := by
    unfold unkB at h3 ⊢
    rw [List.any_append, h3]
    have : ((cntK t b.kind : Int) == 0) = false := by simp only [beq_eq_false_iff_ne, ne_eq]; omega
    simp [this]
  unfold bothE
  rw [h1, h4, h5]; rfl
theorem allB_succ {l : List Bk} {r : List Rq} {out : List Int} {j : Nat} (h1 : j < r.length) (h2 : j < out.length) : allB l r out (j + 1) = allB l r out j ++ [bkR r[j] out[j]] := by
  unfold allB
  rw [take_snoc h1, take_snoc h2, List.zipWith_append (by rw [List.length_take, List.length_take]; omega), List.append_assoc]; rfl
theorem allB_lenJ {l : List Bk} {r : List Rq} {out : List Int} {j : Nat} (h1 : j ≤ r.length) (h2 : j ≤ out.length) : (allB l r out j).length = l.length + j := by
  unfold allB
  rw [List.length_append, List.length_zipWith, List.length_take, List.length_take]
  omega
section
variable {t : List Tb} {l : List Bk} {w : List Rq} {out : List Int}
theorem ques_at (h : quesE t w = 0) {i : Nat} (hi : i < w.length) : queE t (w.take i) w[i] = 0 := by
  unfold quesE at h
  by_cases hl : w.length > 256
  · rw [if_pos hl] at h; exact absurd h (by decide)
  · rw [if_neg hl] at h
    exact restG_zero (err := queE t) h hi
/-- a booking of somebody who is served -/
theorem SvI.book (h : SvI t l w out) (hq : quesE t w = 0) {j : Nat} (hj : j < out.length) (hw : j < w.length) : bookE (bkR w[j] out[j]) = 0 := by
  have hb := h.bd (ques_ok hq).2 hj
  exact bkR_ok (ques_at hq hw) hb.1 (h.at_ j hj hw).2
theorem SvI.both (h : SvI t l w out) (hb : bothE t l = 0) (hq : quesE t w = 0) (hl : l.length + w.length < 256) : ∀ j, j ≤ out.length → bothE t (allB l w out j) = 0
  | 0, _ => by
    have : allB l w out 0 = l := by simp [allB]
    rw [this]; exact hb
  | j + 1, hj => by
    have hlen := h.len
    have hw : j < w.length := by omega
    rw [allB_succ hw (by omega)]
    have ok := (ques_ok hq).2 _ (List.getElem_mem hw)
    exact both_snoc (h.both hb hq hl j (by omega)) (h.book hq (by omega) hw) ok.k (by rw [allB_lenJ (by omega) (by omega)]; omega)
/-- fewer requests -/
theorem SvI.cut (h : SvI t l w out) (m : Nat) : SvI t l (w.take m) (out.take m) := by
  have hlen := h.len
  refine ⟨by rw [List.length_take, List.length_take]; omega, fun j h1 h2 => ?_⟩
  rw [List.length_take] at h1 h2
  have hj : j < out.length := by omega
  have hw : j < w.length := by omega
  have a := h.at_ j hj hw
  have e1 : allB l (w.take m) (out.take m) j = allB l w out j := by
    unfold allB
    rw [List.take_take, List.take_take, Nat.min_eq_left (by omega)]
  have e2 : ∀ k arr, flrB (w.take m) (out.take m) k arr j = flrB w out k arr j := fun k arr => by
    unfold flrB
    rw [List.take_take, List.take_take, Nat.min_eq_left (by omega)]
  rw [e1, e2, List.getElem_take, List.getElem_take]
  exact a
end
end Go.Proofs.YtfjihdlpohljbaaGreat
/- Plain law of HallBalances: what bills and cancellations leave in the accounts. -/
noncomputable section
namespace Go.Proofs.YtfjihdlpohljbaaGreat
open Go Go.Den
set_option maxRecDepth 100000

/-- an input that is looked at -/
structure BcIn (l : List Po) (r : List Ra) (dep note : Int) (b : Bk) : Prop where
  len : l.length ≤ 20
  pos : possE l = 0
  rl : r.length ≤ 100
  chg : chargeE r dep note = 0
  bk0 : bookE b = 0
  span : b.to - b.frm ≤ 2000
theorem acc_name : ∀ i, i < 4 → nameB (acc i) = true
  | 0, _ => by decide +kernel
  | 1, _ => by decide +kernel
  | 2, _ => by decide +kernel
  | 3, _ => by decide +kernel
theorem acc_neA : ∀ i, i < 4 → ∀ j, j < 4 → i ≠ j → acc i ≠ acc j := by decide +kernel
theorem acc_ne (i j : Nat) (hi : i < 4) (hj : j < 4) : i ≠ j → acc i ≠ acc j := acc_neA i hi j hj
theorem posE_acc {i j : Nat} {a : Int} (hi : i < 4) (hj : j < 4) (hij : i ≠ j) (h1 : 0 < a) (h2 : a ≤ 999999999) : posE ⟨acc i, acc j, a⟩ = 0 := by
  rw [posE_3 (by simp [acc_name i hi, acc_name j hj]) (decide_eq_false (acc_ne i j hi hj hij))]
  have : outL a 1 999999999 = false := by simp only [outL, decide_eq_false_iff_not]; omega
  simp [whenL, this]
theorem poss_zero {l : List Po} (h : ∀ x ∈ l, posE x = 0) (hl : l.length ≤ 256) : possE l = 0 := by
  unfold possE
  rw [if_neg (by omega)]
  exact restG_none fun j hj => by rw [errG_at hj]; exact h _ (List.getElem_mem _)
theorem postL_mem {l : List Po} {x y : Po} (h : y ∈ postL l x) : y ∈ l ∨ y = x ∧ 0 < x.amt := by
  unfold postL at h
  split at h
  · exact .inl h
  · rcases List.mem_append.1 h with h | h
    · exact .inl h
    · rw [List.mem_singleton] at h
      exact .inr ⟨h, by omega⟩
theorem postL_bal {l : List Po} {x : Po} {a : ByteArray} : balI (postL l x) a = balI l a + if x.amt ≤ 0 then 0 else balP a x := by
  unfold postL
  split
  · omega
  · rw [balI_snoc]
section
variable {p dep note quarter : Int} {b : Bk}
theorem n01 : (acc 0 = acc 1) = False := eq_false (by decide +kernel)
theorem n02 : (acc 0 = acc 2) = False := eq_false (by decide +kernel)
theorem n10 : (acc 1 = acc 0) = False := eq_false (by decide +kernel)
theorem n12 : (acc 1 = acc 2) = False := eq_false (by decide +kernel)
theorem n20 : (acc 2 = acc 0) = False := eq_false (by decide +kernel)
theorem n21 : (acc 2 = acc 1) = False := eq_false (by decide +kernel)
theorem bill_bal (hp : 0 ≤ p) (hd : 0 ≤ dep) : balI (billL p dep) (acc 0) = p ∧ balI (billL p dep) (acc 2) = -p ∧ balI (billL p dep) (acc 1) = 0 := by
  unfold billL
  simp only [postL_bal, balP, n01, n02, n10, n12, n20, n21, if_true, if_false]
  simp only [balI, List.map_nil, List.sum_nil]
  refine ⟨?_, ?_, ?_⟩ <;> (repeat' split) <;> omega
end
theorem balV_acc {l : List Po} (h : possE l = 0) {i : Nat} (hi : i < 4) : balE l (acc i) = 0 ∧ balV l (acc i) = balI l (acc i) := by
  have e : balE l (acc i) = 0 := by
    unfold balE
    rw [h]
    have : nameE [acc i] = 0 := by unfold nameE; simp [acc_name i hi, whenL]
    rw [this]; rfl
  exact ⟨e, by unfold balV; rw [if_pos e]⟩
/-- an input's price, bill and cancellation have no error -/
theorem BcIn.all {l : List Po} {r : List Ra} {dep note : Int} {b : Bk} (h : BcIn l r dep note b) : ∃ p, 0 ≤ p ∧ p ≤ 999999999 ∧ priceV r b.frm b.to = p ∧ priceE r b.frm b.to = 0 ∧ billX r dep note b = 0 ∧ billB r dep note b = billL p dep ∧ (∀ quarter, 0 ≤ quarter → quarter ≤ b.frm → cancE r dep note b quarter = 0 ∧ cancB r dep note b quarter = cancL dep note b quarter) ∧ 0 ≤ dep ∧ dep ≤ 999999999 ∧ 0 ≤ note ∧ note ≤ 99999 ∧ 0 ≤ b.frm ∧ b.frm < b.to ∧ b.to ≤ 99999 := by
  obtain ⟨h1, h2, h3, h4⟩ := book_ok h.bk0
  obtain ⟨c1, c2, c3, c4, c5⟩ := charge_ok h.chg
  have hp := priceP_bd c1 (a := b.frm.toNat) (b := b.to.toNat) (by omega)
  have hsp := h.span
  have e0 : billE r dep note b = 0 := by unfold billE; rw [h.chg, h.bk0]; rfl
  have e1 : billX r dep note b = 0 := by unfold billX; rw [e0, if_neg (by simp), if_neg (by omega)]
  have rz : ratesE r = 0 := firstL_allZ h.chg _ (List.mem_cons_self ..)
  have se : spanE r b.frm b.to = 0 := by
    unfold spanE
    refine firstL_z fun x hx => ?_
    simp only [List.mem_cons, List.not_mem_nil, or_false] at hx
    rcases hx with rfl | rfl | rfl | rfl
    · exact rz
    · exact when_out (by omega)
    · exact when_out (by omega)
    · rw [show decide (b.to < b.frm) = false from decide_eq_false (by omega)]; rfl
  refine ⟨priceP r b.frm.toNat b.to.toNat, hp.1, by omega, ?_, ?_, e1, ?_, fun quarter q0 q1 => ?_, c2, c3, c4, c5, h2, h3, h4⟩
  · unfold priceV; rw [if_neg (by rw [se]; simp), if_neg (by omega)]
  · unfold priceE; rw [if_neg (by rw [se]; simp), if_neg (by omega)]
  · unfold billB; rw [if_neg (by rw [e1]; simp)]
  · have e2 : cancE r dep note b quarter = 0 := by
      unfold cancE
      refine firstL_z fun x hx => ?_
      simp only [List.mem_cons, List.not_mem_nil, or_false] at hx
      rcases hx with rfl | rfl | rfl | rfl
      · exact h.chg
      · exact h.bk0
      · exact when_out (by omega)
      · rw [show decide (quarter > b.frm) = false from decide_eq_false (by omega)]; rfl
    exact ⟨e2, by unfold cancB; rw [if_neg (by rw [e2]; simp)]⟩
end Go.Proofs.YtfjihdlpohljbaaGreat
