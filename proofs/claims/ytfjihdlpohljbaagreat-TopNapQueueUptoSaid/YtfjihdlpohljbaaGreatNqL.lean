/- HallEither: the plain law. -/
import Derived.Test.YtfjihdlpohljbaaGreatAsF
import Derived.Test.YtfjihdlpohljbaaGreatSvL
import Derived.Test.YtfjihdlpohljbaaGreatBgB
import Derived.Test.YtfjihdlpohljbaaGreatSxM
import Derived.Test.YtfjihdlpohljbaaGreatElJ
import Derived.Test.YtfjihdlpohljbaaGreatSxK
import Derived.Test.YtfjihdlpohljbaaGreatSvC
import Derived.Test.YtfjihdlpohljbaaGreatTuL
noncomputable section
namespace Go.Proofs.YtfjihdlpohljbaaGreat
open Go Go.Den
def useK (l : List Bk) (a : List Int) (k : ByteArray) (j : Nat) : List Int := (List.range j).foldl (fun ks m => if (l[m]?.elim false fun x => decide (x.kind = k)) = true then addK ks (a[m]?.getD 0) else ks) []
theorem useK_succ {l : List Bk} {a : List Int} {k : ByteArray} {j : Nat} : useK l a k (j + 1) = if (l[j]?.elim false fun x => decide (x.kind = k)) = true then addK (useK l a k j) (a[j]?.getD 0) else useK l a k j := by
  unfold useK
  rw [List.range_succ, List.foldl_append]; rfl
theorem useK_mem {l : List Bk} {a : List Int} {k : ByteArray} : ∀ {j : Nat}, j ≤ l.length → (useK l a k j).Nodup ∧ ∀ x, x ∈ useK l a k j ↔ ∃ m, ∃ h : m < l.length, m < j ∧ l[m].kind = k ∧ a[m]?.getD 0 = x
  | 0, _ => ⟨.nil, fun x => by simp [useK]⟩
  | j + 1, hj => by
    obtain ⟨h1, h2⟩ := useK_mem (l := l) (a := a) (k := k) (j := j) (by omega)
    rw [useK_succ, List.getElem?_eq_getElem (by omega : j < l.length), Option.elim_some]
    by_cases e : l[j].kind = k
    · rw [if_pos (decide_eq_true e)]
      refine ⟨nodup_addK h1, fun x => ?_⟩
      rw [mem_addK, h2]
      constructor
      · rintro (⟨m, hm, m1, m2, m3⟩ | rfl)
        · exact ⟨m, hm, by omega, m2, m3⟩
        · exact ⟨j, by omega, by omega, e, rfl⟩
      · rintro ⟨m, hm, m1, m2, m3⟩
        rcases Nat.lt_or_ge m j with e2 | e2
        · exact .inl ⟨m, hm, e2, m2, m3⟩
        · obtain rfl : m = j := by omega
          exact .inr m3.symm
    · rw [if_neg (by simpa using e)]
      refine ⟨h1, fun x => ?_⟩
      rw [h2]
      constructor
      · rintro ⟨m, hm, m1, m2, m3⟩
        exact ⟨m, hm, by omega, m2, m3⟩
      · rintro ⟨m, hm, m1, m2, m3⟩
        rcases Nat.lt_or_ge m j with e2 | e2
        · exact ⟨m, hm, e2, m2, m3⟩
        · obtain rfl : m = j := by omega
          exact absurd m2 e
theorem use_depth {t : List Tb} {l : List Bk} {a : List Int} (hA : AsI t l l.length a) {i : Nat} (hi : i < l.length) (hl : ∀ x ∈ l, BkOk x) :
    1 ≤ (rdA l l[i].kind l.length).1 ∧ (cntD l l[i].kind (rdA l l[i].kind l.length).2 : Int) = (rdA l l[i].kind l.length).1 ∧ ((useK l a l[i].kind l.length).length : Int) = (rdA l l[i].kind l.length).1 := by
  obtain ⟨k, hk⟩ : ∃ k, k = l[i].kind := ⟨_, rfl⟩
  rw [← hk]
  have hb := rdA_best l k l.length (Nat.le_refl _)
  rw [List.take_length] at hb
  obtain ⟨d, hd⟩ : ∃ d, d = rdA l k l.length := ⟨_, rfl⟩
  rw [← hd] at hb ⊢
  have hall : ∀ m, m < l.length → m ∈ (ordL l).take l.length := fun m h => by
    rw [List.take_of_length_le (by rw [ordL_len]; exact Nat.le_refl _)]; exact mem_ordL.2 h
  have h1 : 1 ≤ d.1 := by
    have h2 := hb.ge l[i].frm ⟨l[i], List.getElem_mem hi, rfl⟩
    have h3 : 0 < cntD l k l[i].frm := List.countP_pos_iff.2 ⟨l[i], List.getElem_mem hi, isAt_iff.2 ⟨hk.symm, Int.le_refl _, (hl _ (List.getElem_mem hi)).lt⟩⟩
    omega
  obtain ⟨hc, hat⟩ := hb.at_ (by omega)
  refine ⟨h1, hat, ?_⟩
  obtain ⟨hn, hm⟩ := useK_mem (l := l) (a := a) (k := k) (j := l.length) (Nat.le_refl _)
  obtain ⟨U, hU⟩ : ∃ U, U = useK l a k l.length := ⟨_, rfl⟩
  rw [← hU] at hn hm ⊢
  have tab : ∀ m (h : m < l.length), l[m].kind = k → ∃ j : Nat, a[m]?.getD 0 = (j : Int) ∧ ∃ hj : j < t.length, t[j].kind = k ∧ cntK (t.take (j + 1)) k ≤ cntD l k l[m].frm := fun m h e => by
    obtain ⟨j, j1, j2, j3, j4⟩ := hA.asg m h (hall m h)
    refine ⟨j, by rw [j1]; rfl, j2, j3.trans e, ?_⟩
    rw [e] at j4; exact j4
  -- no more
  have le1 : (U.length : Int) ≤ d.1 := by
    obtain ⟨x, hx, hmax⟩ := max_at (l := U) (List.ne_nil_of_mem ((hm _).2 ⟨i, hi, hi, hk.symm, rfl⟩))
    obtain ⟨m, hml, _, m1, m2⟩ := (hm x).1 hx
    obtain ⟨j, j1, j2, j3, j4⟩ := tab m hml m1
    have hx' : x = (j : Int) := m2.symm.trans j1
    have h2 := hb.ge l[m].frm ⟨l[m], List.getElem_mem hml, rfl⟩
    have h3 : (U.map Int.toNat).length ≤ cntK (t.take (j + 1)) k := by
      unfold cntK
      refine idx_count (p := fun y : Tb => decide (y.kind = k)) (List.pairwise_map.2 (hn.imp_of_mem fun {p q} hp hq hne e => hne ?_)) fun n hn' => ?_
      · obtain ⟨y, hy, rfl⟩ := List.mem_map.1 hn'
        obtain ⟨mp, hp1, _, hp2, hp3⟩ := (hm y).1 hy
        obtain ⟨jp, e1, e2, e3, _⟩ := tab mp hp1 hp2
        have hle := hmax y hy
        have ej : y.toNat = jp := by omega
        rw [ej]
        refine ⟨by rw [List.length_take]; omega, ?_⟩
        rw [List.getElem_take]
        exact decide_eq_true e3
      · obtain ⟨mp, hp1, _, hp2, hp3⟩ := (hm p).1 hp
        obtain ⟨mq, hq1, _, hq2, hq3⟩ := (hm q).1 hq
        obtain ⟨jp, e1, _⟩ := tab mp hp1 hp2
        obtain ⟨jq, e2, _⟩ := tab mq hq1 hq2
        omega
    rw [List.length_map] at h3
    have h2 : (cntD l k l[m].frm : Int) ≤ d.1 := h2
    omega
  -- no fewer
  have le2 : d.1 ≤ (U.length : Int) := by
    rw [← hat]
    obtain ⟨M, hM⟩ : ∃ M, M = (List.range l.length).filter fun m => l[m]?.elim false (isAt k d.2) := ⟨_, rfl⟩
    have e1 : cntD l k d.2 = M.length := by unfold cntD; rw [countP_range, List.countP_eq_length_filter, hM]
    have hmM : ∀ m ∈ M, ∃ h : m < l.length, isAt k d.2 l[m] = true := fun m hm => by
      rw [hM] at hm
      obtain ⟨k1, k2⟩ := List.mem_filter.1 hm
      have k1 := List.mem_range.1 k1
      rw [List.getElem?_eq_getElem k1] at k2
      exact ⟨k1, k2⟩
    have hnd : M.Nodup := by rw [hM]; exact List.Pairwise.filter _ List.nodup_range
    have h4 : (M.map fun m => a[m]?.getD 0).Nodup := List.pairwise_map.2 (hnd.imp_of_mem fun {m m'} h1 h2 hne e => by
      obtain ⟨i1, p1⟩ := hmM m h1
      obtain ⟨i2, p2⟩ := hmM m' h2
      obtain ⟨j1, g1, _⟩ := hA.asg m i1 (hall m i1)
      obtain ⟨j2, g2, _⟩ := hA.asg m' i2 (hall m' i2)
      rw [g1, g2] at e
      simp only [Option.getD_some] at e
      have := hA.sep m m' i1 i2 hne (hall m i1) (hall m' i2) (by rw [g1, g2, e])
      obtain ⟨_, p3, p4⟩ := isAt_iff.1 p1
      obtain ⟨_, p5, p6⟩ := isAt_iff.1 p2
      have hx : meetB l[m] l[m'] = true := meetB_iff.2 ⟨by omega, by omega⟩
      rw [hx] at this; cases this)
    have h5 := h4.length_le_of_subset (l₂ := U) fun x hx => by
      obtain ⟨m, hm1, rfl⟩ := List.mem_map.1 hx
      obtain ⟨i1, p1⟩ := hmM m hm1
      exact (hm _).2 ⟨m, i1, i1, (isAt_iff.1 p1).1, rfl⟩
    rw [List.length_map] at h5
    omega
  omega
/-! ### bookings in another order -/
end Go.Proofs.YtfjihdlpohljbaaGreat
/- HallEither: facts for the law's own walk. -/
noncomputable section
namespace Go.Proofs.YtfjihdlpohljbaaGreat
open Go Go.Den
set_option maxRecDepth 100000
theorem asg_state {h : AHeap} {lo : Nat} {L : List (Option ABlk)} (t : List Tb) (l : List Bk) : ∃ (X : List (Option ABlk)) (p : Option Addr) (n : Nat), asgVal (ext h lo L) t l = .tuple ⟨[.slice p n n, I (asgX t l)]⟩ ∧ asgH (ext h lo L) t l = ext h lo (L ++ X) ∧ (asgX t l = 0 → n = l.length ∧ SlAt (ext h lo (L ++ X)) 1 i1 p (asgV t l)) ∧ (asgX t l ≠ 0 → n = 0) := by
  by_cases e : asgX t l = 0
  · refine ⟨[some (.cells ((asgV t l).map I) 1 false false)], some ⟨nb h L.length, 0, none⟩, l.length, ?_, ?_, fun _ => ⟨rfl, ?_⟩, fun h => absurd e h⟩
    · unfold asgVal
      rw [if_pos e, ext_fresh]
    · unfold asgH
      rw [if_pos e, ext_add]
    · exact slAt_map (ext_get_new List.getElem?_concat_length)
  · refine ⟨[], none, 0, ?_, ?_, fun h => absurd h e, fun _ => rfl⟩
    · unfold asgVal
      rw [if_neg e]
    · unfold asgH
      rw [if_neg e, List.append_nil]
theorem asgX_ite {t : List Tb} {l : List Bk} (hb : bothE t l = 0) : asgX t l = if fitB t l = true then 0 else 23 := if_neg (by rw [hb]; simp)
theorem eit_good {t : List Tb} {l : List Bk} (hb : bothE t l = 0) (hx : asgX t l = 0) : (OvbV t l).2.2 = 7 ∧ AsI t l l.length (asgV t l) := by
  have ok := both_ok hb
  rw [asgX_ite hb] at hx
  cases hf : fitB t l
  · rw [hf] at hx; exact absurd hx (by decide)
  · have e2 : (roA t l l.length).2.2 = false := by
      have := ok.ov.2
      rw [hf] at this
      simpa using this.symm
    rw [ovb_ref hb, e2]
    exact ⟨rfl, asg_inv ok.ok (ok.fit.1 hf) l.length (Nat.le_refl _)⟩
theorem cas_zero {t : List Tb} {l : List Bk} {A : List Int} (hb : bothE t l = 0) (h : AsgP t l A) : casE t l A = 0 := by
  refine firstL_z fun x hx => ?_
  simp only [List.mem_cons, List.not_mem_nil, or_false] at hx
  rcases hx with rfl | rfl | rfl
  · exact hb
  · rw [h.len]; simp [whenL]
  · exact h.chk
theorem both_bookE {t : List Tb} {l : List Bk} (hb : bothE t l = 0) : booksE l = 0 := firstL_allZ hb _ (by simp)
theorem dep_zero {t : List Tb} {l : List Bk} (hb : bothE t l = 0) {i : Nat} (hi : i < l.length) : depE l l[i].kind = 0 := by
  have h1 := both_bookE hb
  have h2 := h1
  unfold booksE at h2
  by_cases hl : l.length > 256
  · rw [if_pos hl] at h2; exact absurd h2 (by decide)
  rw [if_neg hl] at h2
  have h3 := restG_zero (err := fun _ x => bookE x) h2 hi
  unfold bookE at h3
  have h4 : nameE [l[i].name, l[i].kind] = 0 := firstL_allZ h3 _ (by simp)
  have h5 := whenL_z h4 (by decide)
  refine firstL_z fun x hx => ?_
  simp only [List.mem_cons, List.not_mem_nil, or_false] at hx
  rcases hx with rfl | rfl
  · exact h1
  · unfold nameE
    simp only [List.any_cons, List.any_nil, Bool.or_eq_false_iff, Bool.or_false] at h5
    simp [whenL, h5.2]
structure EitA1 (t : List Tb) (l : List Bk) (A : List Int) (i : Nat) (hi : i < l.length) (hA : i < A.length) : Prop where
  lo : 0 ≤ A[i]
  hi : A[i] < t.length
  kd : ∀ h : A[i].toNat < t.length, t[A[i].toNat].kind = l[i].kind
  sep : ∀ k (hk : k < l.length) (hkA : k < A.length), k ≠ i → A[i] = A[k] → meetB l[k] l[i] = false
theorem AsgP.a1 {t : List Tb} {l : List Bk} {A : List Int} (h : AsgP t l A) {i : Nat} (hi : i < l.length) (hA : i < A.length) : EitA1 t l A i hi hA := by
  obtain ⟨k, k1, k2, k3⟩ := h.kd i hi
  rw [List.getElem?_eq_getElem hA] at k1
  have k1 := Option.some.inj k1
  refine ⟨by omega, by omega, fun hx => ?_, fun m hm hmA hne e => ?_⟩
  · have e : A[i].toNat = k := by omega
    simp only [e]; exact k3
  · refine h.sep m i hm hi hne ?_
    rw [List.getElem?_eq_getElem hmA, List.getElem?_eq_getElem hA, e]
end Go.Proofs.YtfjihdlpohljbaaGreat
/- TopNapQueue: the plain law. -/
noncomputable section
namespace Go.Proofs.YtfjihdlpohljbaaGreat
open Go Go.Den
set_option maxRecDepth 100000
structure NqAll (t : List Tb) (all : List Bk) : Prop where
  both : bothE t all = 0
  fit : FitP t all
  x : asgX t all = 0
  ov : (OvbV t all).2.2 = 7
  asi : AsI t all all.length (asgV t all)
theorem nq_all {t : List Tb} {l : List Bk} {w : List Rq} {O : List Int} (hb : bothE t l = 0) (hq : quesE t w = 0) (hl : l.length + w.length < 256) (h : SvI t l w O) (hO : O.length = w.length) (hf : FitP t l) : NqAll t (allB l w O w.length) := by
  have b := h.both hb hq hl w.length (by omega)
  have f := h.fits hf w.length (by omega)
  have x : asgX t (allB l w O w.length) = 0 := by
    rw [asgX_ite b, if_pos ((both_ok b).fit.2 f)]
  obtain ⟨x1, x2⟩ := eit_good b x
  exact ⟨b, f, x, x1, x2⟩
theorem NqAll.dep {t : List Tb} {all : List Bk} (h : NqAll t all) {i : Nat} (hi : i < all.length) : depE all all[i].kind = 0 ∧ 1 ≤ (depV all all[i].kind).1 ∧ (depV all all[i].kind).1 ≤ cntK t all[i].kind := by
  have hz := dep_zero h.both hi
  have hv := depV_zero hz
  rw [depA_eq] at hv
  obtain ⟨g1, g2, _⟩ := use_depth h.asi hi (both_ok h.both).ok
  rw [← hv] at g1 g2
  have := h.fit all[i].kind (depV all all[i].kind).2
  exact ⟨hz, g1, by omega⟩
theorem ques_one {t : List Tb} {w : List Rq} (h : quesE t w = 0) {i : Nat} (hi : i < w.length) : quesE t [w[i]] = 0 := by
  have h1 := ques_at h hi
  have h2 : queE t [] w[i] = 0 := by
    unfold queE at h1
    have ha := firstL_allZ h1
    refine firstL_z fun y hy => ?_
    simp only [List.mem_cons, List.not_mem_nil, or_false] at hy
    rcases hy with rfl | rfl | rfl | rfl | rfl
    · exact ha _ (by simp)
    · exact ha _ (by simp)
    · exact ha (whenL (outL w[i].len 1 96) 3) (by simp)
    · exact ha (whenL (outL w[i].arr 0 99999) 3) (by simp)
    · rfl
  unfold quesE
  rw [if_neg (by simp)]
  refine restG_none fun j hj => ?_
  have : j = 0 := by simp at hj; omega
  subst this
  exact h2
theorem one_least {t : List Tb} {l : List Bk} {z : Rq} {O : List Int} (h : SvI t l [z] O) (hO : O.length = 1) : ∃ s, O = [s] ∧ Least t l z.kind z.arr z.len s ∧ s + z.len ≤ 99999 := by
  obtain ⟨s, rfl⟩ : ∃ s, O = [s] := by
    match O, hO with
    | [s], _ => exact ⟨s, rfl⟩
  obtain ⟨a, b⟩ := h.at_ 0 (by simp) (by simp)
  rw [allB_zeroO] at a
  exact ⟨s, rfl, a, b⟩
theorem cntK_more {t : List Tb} {x : Tb} {k : ByteArray} : cntK t k ≤ cntK (t ++ [x]) k := by
  unfold cntK
  rw [List.countP_append]; omega
theorem nq_more {t : List Tb} {l : List Bk} {z : Rq} {x : Tb} (hb : bothE t l = 0) (hq : quesE t [z] = 0) (hf : FitP t l) (hm : bothE (t ++ [x]) l = 0) :
    (srvE t l [z] = 4 ∨ (srvE t l [z] = 0 ∧ ∃ s s', srvO t l [z] = [s] ∧ srvE (t ++ [x]) l [z] = 0 ∧ srvO (t ++ [x]) l [z] = [s'] ∧ s' ≤ s)) := by
  rcases srv_any hb hq with ⟨e1, _, e3⟩ | ⟨e1, h, hO, _⟩
  · rcases e3 with e3 | e3
    · exfalso
      have h1 : firstL [bothE t l, quesE t [z]] = 0 := firstL_z fun x hx => by
        simp only [List.mem_cons, List.not_mem_nil, or_false] at hx
        rcases hx with rfl | rfl
        · exact hb
        · exact hq
      unfold srvE at e3
      rw [if_neg (by rw [h1]; simp), (both_ok hb).fit.2 hf, if_neg (by simp)] at e3
      split at e3 <;> exact absurd e3 (by decide)
    · exact .inl e3
  · obtain ⟨s, hs, hle, hend⟩ := one_least h (by simpa using hO)
    have hf' : FitP (t ++ [x]) l := fun k q => Nat.le_trans (hf k q) cntK_more
    have hr' : RoomP (t ++ [x]) l z.kind s z.len := fun q q1 q2 => Nat.lt_of_lt_of_le (hle.room q q1 q2) cntK_more
    obtain ⟨s', hl', hle'⟩ := least_of hr' hle.ge
    have hq' : quesE (t ++ [x]) [z] = 0 := by
      have h2 := ques_at hq (i := 0) (by simp)
      have h2 : queE t [] z = 0 := h2
      have ok := queE_ok h2
      have h3 : queE (t ++ [x]) [] z = 0 := by
        unfold queE at h2
        have ha := firstL_allZ h2
        refine firstL_z fun y hy => ?_
        simp only [List.mem_cons, List.not_mem_nil, or_false] at hy
        rcases hy with rfl | rfl | rfl | rfl | rfl
        · exact ha _ (by simp)
        · have : ((cntK (t ++ [x]) z.kind : Int) == 0) = false := by
            have h4 := ok.k
            have h5 := cntK_more (t := t) (x := x) (k := z.kind)
            simp only [beq_eq_false_iff_ne, ne_eq]; omega
          rw [this]; rfl
        · exact ha (whenL (outL z.len 1 96) 3) (by simp)
        · exact ha (whenL (outL z.arr 0 99999) 3) (by simp)
        · rfl
      unfold quesE
      rw [if_neg (by simp)]
      refine restG_none fun j hj => ?_
      have : j = 0 := by simp at hj; omega
      subst this
      exact h3
    have h1 : firstL [bothE (t ++ [x]) l, quesE (t ++ [x]) [z]] = 0 := firstL_z fun y hy => by
      simp only [List.mem_cons, List.not_mem_nil, or_false] at hy
      rcases hy with rfl | rfl
      · exact hm
      · exact hq'
    have hsv : SvI (t ++ [x]) l [z] ([] ++ [s']) := SvI.nil.snoc (by simp) (by simp only [List.length_nil, List.getElem_cons_zero]; rw [allB_zeroO]; exact hl') (by simp only [List.length_nil, List.getElem_cons_zero]; omega)
    obtain ⟨d1, d2⟩ := srv_done h1 ((both_ok hm).fit.2 hf') hsv rfl
    exact .inr ⟨e1, s, s', hs, d1, d2, hle'⟩
end Go.Proofs.YtfjihdlpohljbaaGreat
