/- Plain law of HallBalances: what bills and cancellations leave in the accounts. -/
import Derived.Test.YtfegloadbajbhaaGreatDoorBcD
import Derived.Test.YtfegloadbajbhaaGreatDoorHpD
import Derived.Test.YtfegloadbajbhaaGreatDoorTuL
noncomputable section
namespace Go.Proofs.YtfegloadbajbhaaGreatDoor
open Go Go.Den
set_option maxRecDepth 100000

/-- an input that is looked at -/
structure BcIn (l : List Po) (r : List Ra) (dep note : Int) (b : Bk) : Prop where
  len : l.length ≤ 20
  pos : possE l = 0
  rl : r.length ≤ 100
  chg : chargeE r dep note = 0
  bk0 : bookE b = 0
  span : b.to - b.frm ≤ 2000
theorem acc_name : ∀ i, i < 4 → nameB (acc i) = true
  | 0, _ => by decide +kernel
  | 1, _ => by decide +kernel
  | 2, _ => by decide +kernel
  | 3, _ => by decide +kernel
theorem acc_neA : ∀ i, i < 4 → ∀ j, j < 4 → i ≠ j → acc i ≠ acc j := by decide +kernel
theorem acc_ne (i j : Nat) (hi : i < 4) (hj : j < 4) : i ≠ j → acc i ≠ acc j := acc_neA i hi j hj
theorem posE_acc {i j : Nat} {a : Int} (hi : i < 4) (hj : j < 4) (hij : i ≠ j) (h1 : 0 < a) (h2 : a ≤ 999999999) : posE ⟨acc i, acc j, a⟩ = 0 := by
  rw [posE_3 (by simp [acc_name i hi, acc_name j hj]) (decide_eq_false (acc_ne i j hi hj hij))]
  have : outL a 1 999999999 = false := by simp only [outL, decide_eq_false_iff_not]; omega
  simp [whenL, this]
theorem poss_zero {l : List Po} (h : ∀ x ∈ l, posE x = 0) (hl : l.length ≤ 256) : possE l = 0 := by
  unfold possE
  rw [if_neg (by omega)]
  exact restG_none fun j hj => by rw [errG_at hj]; exact h _ (List.getElem_mem _)
theorem postL_mem {l : List Po} {x y : Po} (h : y ∈ postL l x) : y ∈ l ∨ y = x ∧ 0 < x.amt := by
  unfold postL at h
  split at h
  · exact .inl h
  · rcases List.mem_append.1 h with h | h
    · exact .inl h
    · rw [List.mem_singleton] at h
      exact .inr ⟨h, by omega⟩
theorem postL_bal {l : List Po} {x : Po} {a : ByteArray} : balI (postL l x) a = balI l a + if x.amt ≤ 0 then 0 else balP a x := by
  unfold postL
  split
  · omega
  · rw [balI_snoc]
section
variable {p dep note quarter : Int} {b : Bk}
theorem bill_pos (hp : 0 ≤ p) (hp2 : p ≤ 999999999) (hd : 0 ≤ dep) (hd2 : dep ≤ 999999999) : possE (billL p dep) = 0 := by
  refine poss_zero (fun x hx => ?_) ?_
  · unfold billL at hx
    rcases postL_mem hx with hx | ⟨rfl, h⟩
    · rcases postL_mem hx with hx | ⟨rfl, h⟩
      · rcases postL_mem hx with hx | ⟨rfl, h⟩
        · rcases postL_mem hx with hx | ⟨rfl, h⟩
          · cases hx
          · exact posE_acc (by omega) (by omega) (by omega) h hd2
        · exact posE_acc (by omega) (by omega) (by omega) h (by simp only at h ⊢; omega)
      · exact posE_acc (by omega) (by omega) (by omega) h (by simp only at h ⊢; omega)
    · exact posE_acc (by omega) (by omega) (by omega) h (by simp only at h ⊢; omega)
  · unfold billL
    have h1 := postL_len (postL (postL (postL [] ⟨acc 0, acc 1, dep⟩) ⟨acc 1, acc 2, min dep p⟩) ⟨acc 0, acc 2, p - dep⟩) ⟨acc 1, acc 0, dep - p⟩
    have h2 := postL_len (postL (postL [] ⟨acc 0, acc 1, dep⟩) ⟨acc 1, acc 2, min dep p⟩) ⟨acc 0, acc 2, p - dep⟩
    have h3 := postL_len (postL [] ⟨acc 0, acc 1, dep⟩) ⟨acc 1, acc 2, min dep p⟩
    have h4 := postL_len [] ⟨acc 0, acc 1, dep⟩
    simp only [List.length_nil] at h4
    omega
theorem n01 : (acc 0 = acc 1) = False := eq_false (by decide +kernel)
theorem n02 : (acc 0 = acc 2) = False := eq_false (by decide +kernel)
theorem n03 : (acc 0 = acc 3) = False := eq_false (by decide +kernel)
theorem n10 : (acc 1 = acc 0) = False := eq_false (by decide +kernel)
theorem n12 : (acc 1 = acc 2) = False := eq_false (by decide +kernel)
theorem n13 : (acc 1 = acc 3) = False := eq_false (by decide +kernel)
theorem n20 : (acc 2 = acc 0) = False := eq_false (by decide +kernel)
theorem n21 : (acc 2 = acc 1) = False := eq_false (by decide +kernel)
theorem n30 : (acc 3 = acc 0) = False := eq_false (by decide +kernel)
theorem n31 : (acc 3 = acc 1) = False := eq_false (by decide +kernel)
theorem bill_bal (hp : 0 ≤ p) (hd : 0 ≤ dep) : balI (billL p dep) (acc 0) = p ∧ balI (billL p dep) (acc 2) = -p ∧ balI (billL p dep) (acc 1) = 0 := by
  unfold billL
  simp only [postL_bal, balP, n01, n02, n10, n12, n20, n21, if_true, if_false]
  simp only [balI, List.map_nil, List.sum_nil]
  refine ⟨?_, ?_, ?_⟩ <;> (repeat' split) <;> omega
theorem canc_pos (hd : 0 ≤ dep) (hd2 : dep ≤ 999999999) : possE (cancL dep note b quarter) = 0 := by
  have hq : accQ note b quarter = 0 ∨ accQ note b quarter = 3 := by unfold accQ; split <;> simp
  refine poss_zero (fun x hx => ?_) ?_
  · unfold cancL at hx
    rcases postL_mem hx with hx | ⟨rfl, h⟩
    · rcases postL_mem hx with hx | ⟨rfl, h⟩
      · cases hx
      · exact posE_acc (by omega) (by omega) (by omega) h hd2
    · exact posE_acc (by omega) (by omega) (by omega) h hd2
  · unfold cancL
    have h3 := postL_len (postL [] ⟨acc 0, acc 1, dep⟩) ⟨acc 1, acc (accQ note b quarter), dep⟩
    have h4 := postL_len [] ⟨acc 0, acc 1, dep⟩
    simp only [List.length_nil] at h4
    omega
theorem canc_bal (hd : 0 ≤ dep) : balI (cancL dep note b quarter) (acc 1) = 0 ∧ balI (cancL dep note b quarter) (acc 0) = -balI (cancL dep note b quarter) (acc 3) ∧ balI (cancL dep note b quarter) (acc 0) = if quarter + note ≤ b.frm then 0 else dep := by
  unfold cancL accQ
  by_cases h : quarter + note ≤ b.frm
  · rw [if_pos h, if_pos h]
    simp only [postL_bal, balP, n01, n03, n10, n13, n30, n31, if_true, if_false]
    simp only [balI, List.map_nil, List.sum_nil]
    refine ⟨?_, ?_, ?_⟩ <;> (repeat' split) <;> omega
  · rw [if_neg h, if_neg h]
    simp only [postL_bal, balP, n01, n03, n10, n13, n30, n31, if_true, if_false]
    simp only [balI, List.map_nil, List.sum_nil]
    refine ⟨?_, ?_, ?_⟩ <;> (repeat' split) <;> omega
end
theorem balV_acc {l : List Po} (h : possE l = 0) {i : Nat} (hi : i < 4) : balE l (acc i) = 0 ∧ balV l (acc i) = balI l (acc i) := by
  have e : balE l (acc i) = 0 := by
    unfold balE
    rw [h]
    have : nameE [acc i] = 0 := by unfold nameE; simp [acc_name i hi, whenL]
    rw [this]; rfl
  exact ⟨e, by unfold balV; rw [if_pos e]⟩
/-- an input's price, bill and cancellation have no error -/
theorem BcIn.all {l : List Po} {r : List Ra} {dep note : Int} {b : Bk} (h : BcIn l r dep note b) : ∃ p, 0 ≤ p ∧ p ≤ 999999999 ∧ priceV r b.frm b.to = p ∧ priceE r b.frm b.to = 0 ∧ billX r dep note b = 0 ∧ billB r dep note b = billL p dep ∧ (∀ quarter, 0 ≤ quarter → quarter ≤ b.frm → cancE r dep note b quarter = 0 ∧ cancB r dep note b quarter = cancL dep note b quarter) ∧ 0 ≤ dep ∧ dep ≤ 999999999 ∧ 0 ≤ note ∧ note ≤ 99999 ∧ 0 ≤ b.frm ∧ b.frm < b.to ∧ b.to ≤ 99999 := by
  obtain ⟨h1, h2, h3, h4⟩ := book_ok h.bk0
  obtain ⟨c1, c2, c3, c4, c5⟩ := charge_ok h.chg
  have hp := priceP_bd c1 (a := b.frm.toNat) (b := b.to.toNat) (by omega)
  have hsp := h.span
  have e0 : billE r dep note b = 0 := by unfold billE; rw [h.chg, h.bk0]; rfl
  have e1 : billX r dep note b = 0 := by unfold billX; rw [e0, if_neg (by simp), if_neg (by omega)]
  have rz : ratesE r = 0 := firstL_allZ h.chg _ (List.mem_cons_self ..)
  have se : spanE r b.frm b.to = 0 := by
    unfold spanE
    refine firstL_z fun x hx => ?_
    simp only [List.mem_cons, List.not_mem_nil, or_false] at hx
    rcases hx with rfl | rfl | rfl | rfl
    · exact rz
    · exact when_out (by omega)
    · exact when_out (by omega)
    · rw [show decide (b.to < b.frm) = false from decide_eq_false (by omega)]; rfl
  refine ⟨priceP r b.frm.toNat b.to.toNat, hp.1, by omega, ?_, ?_, e1, ?_, fun quarter q0 q1 => ?_, c2, c3, c4, c5, h2, h3, h4⟩
  · unfold priceV; rw [if_neg (by rw [se]; simp), if_neg (by omega)]
  · unfold priceE; rw [if_neg (by rw [se]; simp), if_neg (by omega)]
  · unfold billB; rw [if_neg (by rw [e1]; simp)]
  · have e2 : cancE r dep note b quarter = 0 := by
      unfold cancE
      refine firstL_z fun x hx => ?_
      simp only [List.mem_cons, List.not_mem_nil, or_false] at hx
      rcases hx with rfl | rfl | rfl | rfl
      · exact h.chg
      · exact h.bk0
      · exact when_out (by omega)
      · rw [show decide (quarter > b.frm) = false from decide_eq_false (by omega)]; rfl
    exact ⟨e2, by unfold cancB; rw [if_neg (by rw [e2]; simp)]⟩
/-- the lines of a trial -/
structure TrF (l : List Po) (T : List (ByteArray × Int)) : Prop where
  len : T.length ≤ 40
  at_ : ∀ i (h : i < T.length), balE l T[i].1 = 0 ∧ balV l T[i].1 = T[i].2
  asc : ∀ i (h : i + 1 < T.length), (Op.bytesLess T[i + 1].1.data.toList T[i].1.data.toList || byteL T[i + 1].1.data.toList T[i].1.data.toList) = false
  one : ∀ i (h : i < T.length), -300000000000 ≤ T[i].2 ∧ T[i].2 ≤ 300000000000
  bd : ∀ i, i ≤ T.length → -(300000000000 * (i : Int)) ≤ ((T.take i).map (·.2)).sum ∧ ((T.take i).map (·.2)).sum ≤ 300000000000 * (i : Int)
  zero : (T.map (·.2)).sum = 0
theorem posE_name {x : Po} (h : posE x = 0) : nameB x.debit = true ∧ nameB x.credit = true := by
  unfold posE at h
  have h1 : nameE [x.debit, x.credit] = 0 := firstL_allZ h _ (List.mem_cons_self ..)
  rw [nameE_two] at h1
  have := whenL_z h1 (by decide)
  simpa using this
theorem trial_facts {l : List Po} (h : possE l = 0) (h20 : l.length ≤ 20) : TrF l (trialL l) := by
  obtain ⟨h256, ha⟩ := poss_ok h
  have hp : ∀ x ∈ l, posE x = 0 := by
    intro x hx
    obtain ⟨i, hi, rfl⟩ := List.getElem_of_mem hx
    unfold possE at h
    rw [if_neg (by omega)] at h
    exact restG_zero (err := fun _ x => posE x) h hi
  have hT : ∀ i (hi : i < (trialL l).length), ∃ hi2 : i < (accB l).length, (trialL l)[i] = (strB (accB l)[i], balI l (strB (accB l)[i])) := fun i hi => ⟨by simpa [trialL] using hi, by simp [trialL]⟩
  have one : ∀ i (hi : i < (trialL l).length), -300000000000 ≤ (trialL l)[i].2 ∧ (trialL l)[i].2 ≤ 300000000000 := fun i hi => by
    obtain ⟨hi2, e⟩ := hT i hi
    rw [e]
    exact balI_small ha h256 _
  refine ⟨?_, fun i hi => ?_, fun i hi => ?_, one, fun i => ?_, trial_zero l⟩
  · have := accM_len (l := l) l.length (Nat.le_refl _)
    rw [List.take_length] at this
    rw [trial_eq, List.length_map, srtN_len]
    unfold accK
    rw [List.length_map]
    omega
  · obtain ⟨hi2, e⟩ := hT i hi
    rw [e]
    have hm : strB (accB l)[i] ∈ accK l := (accB_perm l).mem_iff.1 (List.mem_map.2 ⟨_, List.getElem_mem _, rfl⟩)
    obtain ⟨x, hx, hx2⟩ := mem_accK.1 hm
    have hnm : nameB (strB (accB l)[i]) = true := by
      obtain ⟨n1, n2⟩ := posE_name (hp x hx)
      rcases hx2 with e | e <;> rw [e] <;> assumption
    have e0 : balE l (strB (accB l)[i]) = 0 := by
      unfold balE
      rw [h]
      have : nameE [strB (accB l)[i]] = 0 := by unfold nameE; simp [hnm, whenL]
      rw [this]; rfl
    exact ⟨e0, by unfold balV; rw [if_pos e0]⟩
  · obtain ⟨hi1, e1⟩ := hT (i + 1) hi
    obtain ⟨hi2, e2⟩ := hT i (by omega)
    have hlt := List.pairwise_iff_getElem.1 (accB_srt l) i (i + 1) hi2 hi1 (by omega)
    rw [e1, e2, bytes_eq, Bool.or_eq_false_iff]
    refine ⟨?_, decide_eq_false fun e => ?_⟩
    · rw [Bool.eq_false_iff]
      intro h3
      have h3 := bytes_lt.1 h3
      exact List.lt_asymm hlt h3
    · have h4 : (strB (accB l)[i + 1]).data.toList = (strB (accB l)[i]).data.toList := congrArg (fun a : ByteArray => a.data.toList) e
      have h5 : (accB l)[i + 1] = (accB l)[i] := h4
      rw [h5] at hlt
      exact List.lt_irrefl _ hlt
  · induction i with
    | zero => intro _; simp
    | succ i ih =>
      intro hi
      have h1 := ih (by omega)
      have h2 := one i (by omega)
      rw [take_snoc (by omega), List.map_append, List.sum_append]
      simp only [List.map_cons, List.map_nil, List.sum_cons, List.sum_nil]
      omega
end Go.Proofs.YtfegloadbajbhaaGreatDoor
