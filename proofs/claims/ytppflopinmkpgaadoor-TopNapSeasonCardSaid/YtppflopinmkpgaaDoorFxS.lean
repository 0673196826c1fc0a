/- Contracts: all rounds, as the program makes them. -/
import Derived.Test.YtppflopinmkpgaaDoorFxR
import Derived.Test.YtppflopinmkpgaaDoorTcB
noncomputable section
namespace Go.Proofs.YtppflopinmkpgaaDoor
open Go Go.Den
set_option maxRecDepth 100000

def funV (a b : Nat) : Value := .func (.func 72) #[] #[.pointer (some ⟨a, 0, none⟩), .pointer (some ⟨b, 0, none⟩)]
theorem round212 {H : AHeap} {n r : Int} : Ret Tryd.prog 54 [I n, I r] H (funV H.fresh (H.fresh + 2)) ((H.add (.cells [I n] 0 false false)).add (.cells [I r] 0 false false)) := by
  refine fn_start Tryd.func54 rfl rfl rfl fun hc => ?_
  apply ct_seq
  apply ct_region
  apply seq_newP; exact do_box rfl rfl rfl; exact rfl
  apply seq_newP; exact do_box rfl rfl rfl; exact rfl
  apply seq_plain; exact do_assign rfl; exact rfl
  apply seq_nil
  apply ct_seq
  apply ct_region
  apply seq_plain; exact do_makeFunc rfl rfl; exact rfl
  apply seq_plain; exact do_assign rfl; exact rfl
  apply seq_nil
  apply ct_ret
  obtain ⟨q1, q2⟩ := renOf_two (H := H) (a := nb H 0) (b := nb H 1) ⟨own_iff.1 (nb_own 0), nb_ge 0⟩ ⟨own_iff.1 (nb_own 1), nb_ge 1⟩ (by simp only [nb]; omega)
  refine fin_two (j := 0) (k := 1) hc rfl rfl rfl (by omega) rfl rfl ?_ ⟨rfl, rfl⟩
  simp [packA, renV, renL, funV, q1, q2]
def mkP (r : Nat) (later : Int) (turned : Bool) (p : Int × Int) : Fx := if turned then ⟨r + later, p.2, p.1⟩ else ⟨r + later, p.1, p.2⟩
def fixL (n : Nat) (later : Int) (turned : Bool) (k : Nat) : List Fx := (List.range k).flatMap fun r => (pairsTo n r (evenN n / 2)).map (mkP r later turned)
theorem fixL_len {n k : Nat} {later : Int} {turned : Bool} (h : evenN n ≤ 24) (hk : k ≤ 24) : (fixL n later turned k).length ≤ 10000 := by
  have : (fixL n later turned k).length ≤ k * 30 := by
    clear hk
    unfold fixL
    induction k with
    | zero => simp
    | succ m ih =>
      rw [List.range_succ, List.flatMap_append, List.length_append]
      have h1 := row_len (n := n) (r := m) (k := evenN n / 2) h (by omega)
      have h2 : ([m].flatMap fun r => (pairsTo n r (evenN n / 2)).map (mkP r later turned)).length ≤ 30 := by
        simp only [List.flatMap_cons, List.flatMap_nil, List.append_nil, List.length_map]
        unfold pairsTo
        split
        · simp
        · rw [List.length_map]; exact h1
      omega
  omega
theorem Lst.setL {α : Type} {H : AHeap} {L : List (Option ABlk)} {m : Nat} {f : α → List Value} {l : List α} {k0 K : Nat} {v : Value} {x : Option ABlk} {y : ABlk} (h : Lst H L m f k0 v l) (hK : L[K]? = some (some y)) (hy : ∀ cs, y ≠ .cells cs m true false) : Lst H (L.set K x) m f k0 v l := by
  rcases h.out with ⟨rfl, rfl⟩ | ⟨hne, k, h1, rfl, h2⟩
  · exact ⟨.inl ⟨rfl, rfl⟩⟩
  · refine ⟨.inr ⟨hne, k, h1, rfl, ?_⟩⟩
    rw [List.getElem?_set_ne (fun e => ?_)]
    · exact h2
    · subst e
      rw [h2, Option.some.injEq, Option.some.injEq] at hK
      exact hy _ hK.symm
abbrev bx (vs : List Value) : ABlk := .cells vs 0 false false
theorem nb_two {H : AHeap} {k : Nat} : nb H k + 2 = nb H (k + 1) := by simp only [nb]; omega
/-- what lies there between the rounds -/
structure Jd (H : AHeap) (F : List (Nat × ABlk)) (K : Nat) (R : ALoop) (acc : List Fx) (g : Int × Int → Fx) (ps : List (Int × Int)) (h : AHeap) : Prop where
  low : h.low ≤ h.fresh
  closed : Closed h
  out : ∃ N v, LQ h (ext H 0 N) ∧ Has N F ∧ N[2]? = some (some (bx [v])) ∧ N[K]? = some (some (.loop R)) ∧ Lst H N 3 fx 3 v (acc ++ ps.map g)
theorem jd_st {H : AHeap} {F : List (Nat × ABlk)} {K : Nat} {R : ALoop} {acc : List Fx} {g : Int × Int → Fx} {ps : List (Int × Int)} {h h' : AHeap} (q : LQ h h') (hl : h'.low ≤ h'.fresh) (hj : Jd H F K R acc g ps h) : Jd H F K R acc g ps h' := by
  obtain ⟨N, v, a, b⟩ := hj.out
  exact ⟨hl, q.closed hj.closed, N, v, q.symm.trans a, b⟩
theorem jd_ext {H : AHeap} (hc : Closed H) {F : List (Nat × ABlk)} {K : Nat} {R : ALoop} {acc : List Fx} {g : Int × Int → Fx} {ps : List (Int × Int)} {h : AHeap} {lo : Nat} {M : List (Option ABlk)} (hj : Jd H F K R acc g ps h) : Jd H F K R acc g ps (ext h lo M) := by
  obtain ⟨N, v, a, b, c, d, e⟩ := hj.out
  exact ⟨low_ext, ext_closed hj.closed, N ++ M, v, (a.ext hj.closed).trans (ext_ext (lo' := 0) hc), b.app M, getApp c, getApp d, e.app M⟩
theorem jd_get {H : AHeap} {F : List (Nat × ABlk)} {K : Nat} {R : ALoop} {acc : List Fx} {g : Int × Int → Fx} {ps : List (Int × Int)} {h : AHeap} (hj : Jd H F K R acc g ps h) {k : Nat} {y : ABlk} (hm : (k, y) ∈ F) : h.get (nb H k) = some y := by
  obtain ⟨N, v, a, b, c, d, e⟩ := hj.out
  rw [a.get, ext_get_new (b.at hm)]
theorem jd_loop {H : AHeap} {F : List (Nat × ABlk)} {K : Nat} {R : ALoop} {acc : List Fx} {g : Int × Int → Fx} {ps : List (Int × Int)} {h : AHeap} (hj : Jd H F K R acc g ps h) : h.get (nb H K) = some (.loop R) := by
  obtain ⟨N, v, a, b, c, d, e⟩ := hj.out
  rw [a.get, ext_get_new d]

set_option maxHeartbeats 1000000 in
theorem fixtures153 {H : AHeap} {n : Nat} {later : Int} {turned : Bool} (h2 : 2 ≤ n) (h24 : n ≤ 24) (hlt : 0 ≤ later ∧ later ≤ 100) :
    Ret Tryd.prog 17 [I n, I later, .bool turned] H (lstV H.fresh (fixL n later turned (evenN n - 1))) (lstH H 3 fx (fixL n later turned (evenN n - 1))) := by
  obtain ⟨e1, e2, e3, e4⟩ := even_ge h2 h24
  refine fn_start Tryd.func17 rfl rfl rfl fun hc => ?_
  apply ct_seq
  apply ct_region
  apply seq_newP; exact do_box rfl rfl rfl; exact rfl
  apply seq_newP; exact do_box rfl rfl rfl; exact rfl
  apply seq_plain; exact do_assign rfl; exact rfl
  apply seq_nil
  apply ct_seq
  apply ct_region
  apply seq_newP; exact do_alloc rfl rfl; exact rfl
  apply seq_nil
  apply ct_seq
  apply ct_seq
  apply ct_region
  apply seq_plain; exact do_move rfl; exact rfl
  apply seq_call (ht := rfl); exact even_c (by omega); exact rfl
  apply seq_plain; exact do_predN rfl rfl (by omega) (by omega); exact rfl
  apply seq_plain; exact do_move rfl; exact rfl
  apply seq_nil
  apply ct_block
  apply ct_loop
  refine lt_measD (α := Nat × Value × List (Option ABlk) × List Nat × Nat) (fun a => [(0, I n), (4, .pointer (some ⟨nb H 0, 0, none⟩)), (5, .pointer (some ⟨nb H 1, 0, none⟩)), (7, .pointer (some ⟨nb H 2, 0, none⟩)), (12, I (evenN n - 1 : Nat)), (13, I a.1)]) (fun a => a.2.2.2.1.map (nb H)) (fun a => ext H a.2.2.2.2 a.2.2.1)
    (fun a => a.1 ≤ evenN n - 1 ∧ Has a.2.2.1 ([(0, bx [I later]), (1, bx [.bool turned])] ++ a.2.2.2.1.map fun k => (k, .defd)) ∧ a.2.2.1[2]? = some (some (bx [a.2.1])) ∧ Lst H a.2.2.1 3 fx 3 a.2.1 (fixL n later turned a.1) ∧ a.2.2.2.1.Nodup) (fun a => evenN n - 1 - a.1) (fun a ha ih => ?_)
    (0, .slice none 0 0, [some (bx [I later]), some (bx [.bool turned]), some (bx [.slice none 0 0])], [], H.fresh) ⟨by omega, ?_, rfl, .nil, .nil⟩ rfl (by repeat (first | exact sub_nil | apply sub_cons rfl)) (.refl _)
  rotate_left
  · intro p hp
    simp only [List.map_nil, List.append_nil, List.mem_cons, List.not_mem_nil, or_false] at hp
    rcases hp with rfl | rfl <;> rfl
  obtain ⟨r, v, M, ks, lo⟩ := a
  obtain ⟨hr, hM, hM2, hv, hnd⟩ := ha
  simp only at hr hM hM2 hv hnd ih ⊢
  have ih' := fun r' v' M' ks' lo' a1 a2 a3 a4 a5 a6 => ih (r', v', M', ks', lo') a1 ⟨a2, a3, a4, a5, a6⟩
  simp only at ih'
  clear ih
  have g0 : M[0]? = some (some (bx [I later])) := hM.at (by simp)
  have g1 : M[1]? = some (some (bx [.bool turned])) := hM.at (by simp)
  have l2 : 2 < M.length := (List.getElem?_eq_some_iff.1 hM2).1
  apply ct_seq
  apply ct_region
  apply seq_plain; exact do_binInt rfl rfl rfl trivial; exact rfl
  apply seq_nil
  apply ct_seq
  refine ct_cond rfl (fun h1 => ?_) (fun h1 => ?_)
  · have h1 : r < evenN n - 1 := by simp at h1; omega
    apply ct_skip
    apply ct_seq
    apply ct_block
    apply ct_seq
    apply ct_region
    apply seq_plain; exact do_move rfl; exact rfl
    apply seq_newP; exact do_alloc rfl rfl; exact rfl
    apply seq_putC (hc := by assumption); rotate_left; exact do_store rfl rfl (by exact ext_get_new List.getElem?_concat_length) rfl rfl (nb_own _); rotate_left; exact (by simp)
    apply ct_seq
    apply ct_region
    apply seq_plain; exact do_move rfl; exact rfl
    apply seq_plain; exact do_load rfl (by exact ext_get_new getSetLast) rfl (by exact rfl); exact rfl
    have eM : ∀ a b : Option ABlk, (M ++ [a]).set M.length b = M ++ [b] := fun a b => set_mid rfl
    rw [eM]
    have c1 := round212 (H := ext H lo (M ++ [some (bx [I r])])) (n := n) (r := r)
    rw [ext_add, ext_add, ext_fresh, nb_two] at c1
    simp only [List.length_append, List.length_singleton] at c1
    skip
    apply seq_call (ht := rfl); exact c1; exact rfl
    obtain ⟨M2, hM2e⟩ : ∃ M2, M2 = M ++ [some (bx [I r])] ++ [some (bx [I n])] ++ [some (bx [I r])] := ⟨_, rfl⟩
    rw [← hM2e]
    have lM2 : M2.length = M.length + 3 := by rw [hM2e]; simp
    have sM : ∀ (j : Nat) y, M[j]? = some (some y) → M2[j]? = some (some y) := fun j y h => by rw [hM2e]; exact getApp (getApp (getApp h))
    have r8 : M2[M.length]? = some (some (bx [I r])) := by rw [hM2e]; exact getApp (getApp List.getElem?_concat_length)
    have rn : M2[M.length + 1]? = some (some (bx [I n])) := by
      rw [hM2e]
      have : M.length + 1 = (M ++ [some (bx [I r])]).length := by simp
      rw [this]; exact getApp List.getElem?_concat_length
    have rr : M2[M.length + 2]? = some (some (bx [I r])) := by
      rw [hM2e]
      have : M.length + 2 = (M ++ [some (bx [I r])] ++ [some (bx [I n])]).length := by simp
      rw [this]; exact List.getElem?_concat_length
    obtain ⟨F, hF⟩ : ∃ F : List (Nat × ABlk), F = [(0, bx [I later]), (1, bx [.bool turned]), (M.length, bx [I r]), (M.length + 1, bx [I n]), (M.length + 2, bx [I r])] ++ (M2.length :: ks).map fun k => (k, .defd) := ⟨_, rfl⟩
    have Flt : ∀ p ∈ F, p.1 < M2.length + 1 := by
      intro p hp
      rw [hF] at hp
      simp only [List.map_cons, List.cons_append, List.nil_append, List.mem_cons, List.mem_map] at hp
      rcases hp with rfl | rfl | rfl | rfl | rfl | rfl | ⟨k, hk, rfl⟩
      · simp
      · simp only; omega
      · simp only; omega
      · simp only; omega
      · simp only; omega
      · simp
      · have := (List.getElem?_eq_some_iff.1 (hM (k, .defd) (by simp [hk]))).1
        simp only at this ⊢; omega
    have F2 : ∀ p ∈ F, p.1 ≠ 2 := by
      intro p hp e
      rw [hF] at hp
      simp only [List.map_cons, List.cons_append, List.nil_append, List.mem_cons, List.mem_map] at hp
      rcases hp with rfl | rfl | rfl | rfl | rfl | rfl | ⟨k, hk, rfl⟩
      · simp at e
      · simp at e
      · simp only at e; omega
      · simp only at e; omega
      · simp only at e; omega
      · simp only at e; omega
      · have := hM (k, .defd) (by simp [hk])
        simp only at e this
        rw [e, hM2] at this
        simp at this
    have Fnot : ∀ p ∈ F, ∀ cs, p.2 ≠ .cells cs 3 true false := by
      intro p hp cs
      rw [hF] at hp
      simp only [List.map_cons, List.cons_append, List.nil_append, List.mem_cons, List.mem_map] at hp
      rcases hp with rfl | rfl | rfl | rfl | rfl | rfl | ⟨k, hk, rfl⟩ <;> simp
    apply seq_nil
    apply ct_block
    refine ct_rangeFuncR hc rfl (fun R _ h => Jd H F (M2.length + 1) R (fixL n later turned r) (mkP r later turned) (pairsTo n r (evenN n / 2)) h ∧ h.low ≤ (ext H lo (M2 ++ [some .defd, some (.loop R)])).low) (fun R hR => ?_) (fun R hR w h3 hw => ?_) (fun e d h h' q p => ⟨CodeT.to (fun _ _ h => h) q p.out⟩)
    · have hj0 : Jd H F (M2.length + 1) R (fixL n later turned r) (mkP r later turned) [] (ext H lo (M2 ++ [some .defd, some (.loop R)])) := by
        have eL : M2 ++ [some .defd, some (.loop R)] = M2 ++ [some .defd] ++ [some (.loop R)] := by simp
        refine ⟨low_ext, ext_closed hc, M2 ++ [some .defd, some (.loop R)], v, ⟨fun b => by rw [ext_get hc, ext_get hc], rfl⟩, ?_, getApp (sM _ _ hM2), ?_, ?_⟩
        · intro p hp
          rw [hF] at hp
          simp only [List.map_cons, List.cons_append, List.nil_append, List.mem_cons, List.mem_map] at hp
          rcases hp with rfl | rfl | rfl | rfl | rfl | rfl | ⟨k, hk, rfl⟩
          · exact getApp (sM _ _ g0)
          · exact getApp (sM _ _ g1)
          · exact getApp r8
          · exact getApp rn
          · exact getApp rr
          · rw [eL]; exact getApp List.getElem?_concat_length
          · exact getApp (sM _ _ (hM (k, .defd) (by simp [hk])))
        · rw [eL]
          have : M2.length + 1 = (M2 ++ [some ABlk.defd]).length := by simp
          rw [this]; exact List.getElem?_concat_length
        · rw [List.map_nil, List.append_nil]
          refine Lst.app ?_ _
          rw [hM2e]
          exact ((hv.app _).app _).app _
      refine round244 (B := nb H (M2.length + 1)) (b1 := nb H (M.length + 1)) (b2 := nb H (M.length + 2)) h2 h24 h1 ⟨fun ps h h' => jd_st, fun ps h lo M => jd_ext hc, fun ps h hj => ⟨hj.closed, hj.low, ⟨0, false, false, jd_get hj (by rw [hF]; simp)⟩, ⟨0, false, false, jd_get hj (by rw [hF]; simp)⟩, .loop R, jd_loop hj⟩, fun ps p h hlen hj => ?_⟩ hj0
      obtain ⟨N, v', a, b, c, d, e⟩ := hj.out
      have lK : M2.length + 1 < N.length := (List.getElem?_eq_some_iff.1 d).1
      have f0 : (0, bx [I later]) ∈ F := by rw [hF]; simp
      have f1 : (1, bx [.bool turned]) ∈ F := by rw [hF]; simp
      have f8 : (M.length, bx [I r]) ∈ F := by rw [hF]; simp
      refine RoundT.low (h' := ext H (min h.low H.fresh) N) ⟨fun b => by rw [a.get, ext_get hc, ext_get hc], a.next⟩ (by show min (min h.low H.fresh) H.fresh ≤ h.low; omega) ?_
      obtain ⟨Q, hQ⟩ : ∃ Q : Value → AHeap → Prop, Q = fun v h' => v = .bool true ∧ Jd H F (M2.length + 1) R (fixL n later turned r) (mkP r later turned) (ps ++ [p]) h' := ⟨_, rfl⟩
      rw [← hQ]
      refine roundT_ct (e := (19, prV p) :: _) hc d (by rw [hR]; rfl) ?_
      have eR : R.state = .ready ∧ R.pending = none := by rw [hR]; exact ⟨rfl, rfl⟩
      obtain ⟨Rb, hRb⟩ : ∃ Rb : ALoop, Rb = { R with state := .busy } := ⟨_, rfl⟩
      have eRb : ({ Rb with state := .ready, pending := none } : ALoop) = R := by
        rw [hRb]
        obtain ⟨r1, r2⟩ := eR
        cases R; simp only at r1 r2; subst r1; subst r2; rfl
      simp only [hR, loopR]
      apply ct_region
      apply seq_newP; exact do_alloc rfl rfl; exact rfl
      refine seq_plain0 (do_store rfl rfl (ext_get_new List.getElem?_concat_length) rfl rfl (nb_own _)) (seq_nil ⟨⟨_, _, _, N ++ [some (bx [I p.1, I p.2])], R, rfl, rfl, hq_put_last hc, getApp d, eR.1, ?_⟩⟩)
      rw [← hRb]
      obtain ⟨N1, hN1⟩ : ∃ N1, N1 = (N ++ [some (bx [I p.1, I p.2])]).set (M2.length + 1) (some (.loop Rb)) := ⟨_, rfl⟩
      rw [← hN1]
      have l1 : N1.length = N.length + 1 := by rw [hN1]; simp
      have nF : Has N1 F := by
        rw [hN1]
        exact (b.app _).set fun q hq => Nat.ne_of_lt (Flt q hq)
      have n2 : N1[2]? = some (some (bx [v'])) := by rw [hN1, List.getElem?_set_ne (by omega)]; exact getApp c
      have np : N1[N.length]? = some (some (bx [I p.1, I p.2])) := by rw [hN1, List.getElem?_set_ne (by omega)]; exact List.getElem?_concat_length
      have nK : N1[M2.length + 1]? = some (some (.loop Rb)) := by rw [hN1, List.getElem?_set_self (by simp; omega)]
      have nL : Lst H N1 3 fx 3 v' (fixL n later turned r ++ ps.map (mkP r later turned)) := by
        rw [hN1]; exact Lst.setL (e.app _) (getApp d) (by intro cs h; cases h)
      clear hN1 a b c d e hR hj
      obtain ⟨q, hq⟩ : ∃ q : Int × Int, q = if turned then (p.2, p.1) else p := ⟨_, rfl⟩
      obtain ⟨N2, hN2⟩ : ∃ N2, N2 = if turned then N1.set N.length (some (bx [I p.2, I p.1])) else N1 := ⟨_, rfl⟩
      have n1 := nF.at f1
      have m_ne : ∀ j, j ≠ N.length → N2[j]? = N1[j]? := by
        intro j hj
        rw [hN2]
        split
        · rw [List.getElem?_set_ne (fun e => hj e.symm)]
        · rfl
      have mp : N2[N.length]? = some (some (bx [I q.1, I q.2])) := by
        rw [hN2, hq]
        split
        · rw [List.getElem?_set_self (by omega)]
        · exact np
      have ml : N2.length = N.length + 1 := by rw [hN2]; split <;> simp [l1]
      have mL : Lst H N2 3 fx 3 v' (fixL n later turned r ++ ps.map (mkP r later turned)) := by
        rw [hN2]
        split
        · exact Lst.setL nL np (by intro cs h; cases h)
        · exact nL
      apply ct_block
      apply ct_seq
      apply ct_seq
      apply ct_region
      apply seq_plain; exact do_load rfl (by exact ext_get_new (by assumption)) rfl (by exact rfl); exact rfl
      apply seq_nil
      refine ct_J [(4, .pointer (some ⟨nb H 0, 0, none⟩)), (7, .pointer (some ⟨nb H 2, 0, none⟩)), (8, .pointer (some ⟨nb H M.length, 0, none⟩)), (9, .pointer (some ⟨nb H N.length, 0, none⟩))] (ds := []) (h := ext H (min h.low H.fresh) N2) ?_ ?_
      · refine ct_cond rfl (fun u => ?_) (fun u => ?_)
        · have u : turned = true := u
          apply ct_region
          apply seq_plain; exact do_load rfl (by exact ext_get_new (by assumption)) rfl (by exact rfl); exact rfl
          apply seq_call (ht := rfl); exact turned138; exact rfl
          refine seq_putJ hc (by omega) (do_store rfl rfl (ext_get_new np) rfl rfl (nb_own _)) ?_ (by repeat (first | exact sub_nil | apply sub_cons rfl))
          rw [hN2, if_pos u]
        · have u : turned = false := u
          rw [if_neg (by simp [u])] at hN2
          rw [hN2]
          apply ct_skip
          exact jp_of (by repeat (first | exact sub_nil | apply sub_cons rfl))
      have m2 : N2[2]? = some (some (bx [v'])) := by rw [m_ne 2 (by omega)]; exact n2
      have mF : ∀ x ∈ F, N2[x.1]? = some (some x.2) := fun x hx => by rw [m_ne _ (by have := Flt x hx; omega)]; exact nF x hx
      have m0 := mF _ f0
      have m8 := mF _ f8
      have mK : N2[M2.length + 1]? = some (some (.loop Rb)) := by rw [m_ne _ (by omega)]; exact nK
      simp only at m0 m8
      clear np nK nL n2 n1 hN2 l1 nF
      have hlen1 := fixL_len (n := n) (k := r) (later := later) (turned := turned) e2 (by omega)
      obtain ⟨x, hx⟩ : ∃ x : Fx, x = ⟨r + later, q.1, q.2⟩ := ⟨_, rfl⟩
      have hxm : mkP r later turned p = x := by
        rw [hx, hq]
        unfold mkP
        cases turned <;> rfl
      apply ct_region
      apply seq_plain; exact do_load rfl (by exact ext_get_new (by assumption)) rfl (by exact rfl); exact rfl
      apply seq_plain; exact do_load rfl (by exact ext_get_new (by assumption)) rfl (by exact rfl); exact rfl
      apply seq_plain; exact do_load rfl (by exact ext_get_new (by assumption)) rfl (by exact rfl); exact rfl
      apply seq_plain; exact do_add rfl rfl (by omega); exact rfl
      apply seq_plain; exact do_indexAddrA rfl rfl rfl (by exact rfl); exact rfl
      apply seq_plain; exact do_load rfl (by exact ext_get_new (by assumption)) rfl (by exact rfl); exact rfl
      apply seq_plain; exact do_indexAddrA rfl rfl rfl (by exact rfl); exact rfl
      apply seq_plain; exact do_load rfl (by exact ext_get_new (by assumption)) rfl (by exact rfl); exact rfl
      apply seq_plain; exact do_build rfl rfl rfl rfl; exact rfl
      apply seq_newS; exact do_buildSlice rfl rfl rfl rfl rfl rfl rfl; exact rfl
      refine seq_growK (xs := [x]) hc (mL.app _) (by simp; omega) (fun _ => rfl) (fun _ => rfl) rfl rfl rfl rfl rfl rfl (ext_get_new List.getElem?_concat_length) (by rw [hx]; rfl) (by simp) ?_ (Nat.ne_of_beq_eq_false rfl) (Nat.ne_of_beq_eq_false rfl) rfl (fun v2 L3 hv' hst3 hlen3 => ?_)
      · exact Nat.le_trans (Nat.mul_le_mul_right _ (by simp only [List.length_cons, List.length_nil, List.length_append, List.length_map]; omega : _ ≤ 30000)) (Nat.le_of_ble_eq_true rfl)
      obtain ⟨pv, rfl, _, _⟩ := hv'.slice (lo := 0) fx_len
      have st : ∀ (j : Nat) y, N2[j]? = some (some y) → (∀ cs, y ≠ .cells cs 3 true false) → L3[j]? = some (some y) := fun j y h hy => hst3 j y (getApp h) fun _ => hy _
      have t2 : L3[2]? = some (some (bx [v'])) := st _ _ m2 (by simp)
      have l3 : M2.length + 1 < L3.length := by rw [hlen3]; simp; omega
      refine seq_plain0 (do_store rfl rfl (ext_get_new t2) rfl rfl (nb_own _)) (seq_nil ⟨⟨_, _, Rb, ext_put hc (by omega) _, ?_, fun h' q' => ?_⟩⟩)
      · rw [List.getElem?_set_ne (by omega)]; exact st _ _ mK (by intro cs; simp)
      rw [hQ]
      have er : ({ Rb with state := if (jumpOf Ex.normal).isNone then .ready else .done, pending := jumpOf Ex.normal } : ALoop) = R := eRb
      rw [er] at q'
      have hlow' : h'.low ≤ h'.fresh := by rw [q'.low, q'.fresh]; exact low_ext
      refine ⟨rfl, hlow', q'.symm.lq.closed (ext_closed hc), (L3.set 2 (some (bx [.slice pv (fixL n later turned r ++ List.map (mkP r later turned) ps ++ [x]).length (fixL n later turned r ++ List.map (mkP r later turned) ps ++ [x]).length]))).set (M2.length + 1) (some (.loop R)), .slice pv (fixL n later turned r ++ List.map (mkP r later turned) ps ++ [x]).length (fixL n later turned r ++ List.map (mkP r later turned) ps ++ [x]).length, ⟨fun b => by rw [q'.get, ext_get hc, ext_get hc], q'.next⟩, ?_, ?_, ?_, ?_⟩
      · intro z hz
        rw [List.getElem?_set_ne (by have := Flt z hz; omega), List.getElem?_set_ne (fun e => F2 z hz e.symm)]
        exact st _ _ (mF z hz) (Fnot z hz)
      · rw [List.getElem?_set_ne (by omega), List.getElem?_set_self (by omega)]
      · rw [List.getElem?_set_self (by simp; omega)]
      · rw [List.map_append, ← List.append_assoc, List.map_cons, List.map_nil, hxm]
        refine Lst.setL (Lst.setL hv' t2 (by intro cs h; cases h)) (y := .loop Rb) ?_ (by intro cs h; cases h)
        rw [List.getElem?_set_ne (by omega)]; exact st _ _ mK (by intro cs; simp)
    · obtain ⟨hj, hlo⟩ := hw
      obtain ⟨N, v', a, b, c, d, e⟩ := hj.out
      have lK : M2.length + 1 < N.length := (List.getElem?_eq_some_iff.1 d).1
      have hl3 : h3.low ≤ H.fresh := Nat.le_trans hlo (Nat.min_le_right _ _)
      have hp : R.pending = none := by rw [hR]; rfl
      have hq : HQ h3 (ext H h3.low N) := ⟨fun b => by rw [a.get, ext_get hc, ext_get hc], a.next, by show h3.low = min h3.low H.fresh; omega⟩
      refine ⟨R, h3.low, N, hq, d, by rw [hR]; simp [loopR], ?_⟩
      obtain ⟨X, hX⟩ : ∃ X : ALoop, X = { R with state := .exhausted } := ⟨_, rfl⟩
      rw [← hX, hp]
      simp only
      apply ct_region
      apply seq_plain; exact do_succ rfl (by omega); exact rfl
      apply seq_plain; exact do_move rfl; exact rfl
      apply seq_nil
      refine lt_to (by repeat (first | exact sub_nil | apply sub_cons rfl)) (.refl _) (ih' (r + 1) v' (N.set (M2.length + 1) (some (.loop X))) (M2.length :: ks) h3.low (by omega) (by omega) ?_ ?_ ?_ ?_)
      · intro q hq
        have hqF : q ∈ F := by
          rw [hF]
          rcases List.mem_append.1 hq with hq | hq
          · simp only [List.mem_cons, List.not_mem_nil, or_false] at hq
            rcases hq with rfl | rfl <;> simp
          · exact List.mem_append.2 (.inr hq)
        have := Flt q hqF
        rw [List.getElem?_set_ne (by omega)]
        exact b q hqF
      · rw [List.getElem?_set_ne (by omega)]; exact c
      · have e' := Lst.setL e (x := some (.loop X)) d (by intro cs h; cases h)
        have : fixL n later turned (r + 1) = fixL n later turned r ++ (pairsTo n r (evenN n / 2)).map (mkP r later turned) := by
          unfold fixL
          rw [List.range_succ, List.flatMap_append]
          simp
        rw [this]; exact e'
      · refine List.nodup_cons.2 ⟨fun hk => ?_, hnd⟩
        have := (List.getElem?_eq_some_iff.1 (hM (M2.length, .defd) (by simp [hk]))).1
        simp only at this; omega
  · have h1 : r = evenN n - 1 := by simp at h1; omega
    subst h1
    apply ct_exit
    apply exit_eq; exact rfl
    apply ct_seq
    apply ct_region
    apply seq_plain; exact do_load rfl (by exact ext_get_new (by assumption)) rfl (by exact rfl); exact rfl
    apply seq_plain; exact do_assign rfl; exact rfl
    apply seq_nil
    apply ct_ret
    refine fin_lstD hc hv rfl (fun _ => rfl) (fun k hk => hM (k, .defd) (by simp [hk])) hnd ⟨rfl, rfl⟩
end Go.Proofs.YtppflopinmkpgaaDoor
