/- Contracts: the rows of all teams. -/
import Derived.Test.YtppflopinmkpgaaDoorTcF
import Derived.Test.YtppflopinmkpgaaDoorTbO
noncomputable section
namespace Go.Proofs.YtppflopinmkpgaaDoor
open Go Go.Den
set_option maxRecDepth 100000

theorem repl_flatR {α : Type} {f : α → List Value} {x : α} : ∀ n, repl (f x) n = (List.replicate n x).flatMap f
  | 0 => rfl
  | n + 1 => by simp [repl, repl_flatR (f := f) n, List.replicate_succ]
theorem mkRows {l : EL} {h : AHeap} {a : Operand} {n : Nat} (ha : ev l a = some (I n)) (hn : n ≤ 24) : Does Tryd.prog l (.makeSlice 35 a a) h (.slice (some ⟨h.fresh, 0, none⟩) n n) (h.add (rwB (List.replicate n (zeroR 0)) 9 false)) := by
  have e : (List.replicate n (zeroR 0)).flatMap rw9 = repl (rw9 (zeroR 0)) n := by
    rw [← repl_flatR]
  rw [rwB, e]
  exact do_makeSlice ha ha rfl rfl rfl rfl (Nat.le_refl _) (by omega) (Nat.le_trans (Nat.mul_le_mul_left _ hn) (Nat.le_of_ble_eq_true rfl))
/-- the first i rows have their teams -/
def initS (n i : Nat) : List Rw := (List.range n).map fun (k : Nat) => zeroR (if k < i then (k : Int) else 0)
theorem initS_len {n i : Nat} : (initS n i).length = n := by simp [initS]
theorem initS_zero {n : Nat} : initS n 0 = List.replicate n (zeroR 0) := by
  refine List.ext_getElem (by simp [initS]) fun i h1 h2 => by simp [initS]
theorem initS_all {n : Nat} : initS n n = initR n := by
  refine List.ext_getElem (by simp [initS, initR]) fun i h1 h2 => ?_
  have : i < n := by simpa [initS] using h1
  simp [initS, initR, this]
theorem initS_set {n i : Nat} : (initS n i).set i (zeroR i) = initS n (i + 1) := by
  refine List.ext_getElem (by simp [initS]) fun j h1 h2 => ?_
  rw [List.getElem_set]
  by_cases e : i = j
  · subst e; simp [initS]
  · rw [if_neg e]
    have : (j < i) ↔ (j < i + 1) := by omega
    simp [initS, this]
/-- the matches among some teams -/
def onlyF (am : Int → Bool) (l : List Ma) : List Ma := l.filter fun m => am m.home && am m.away
theorem onlyF_snoc {am : Int → Bool} {l : List Ma} {m : Ma} : onlyF am (l ++ [m]) = if am m.home && am m.away then onlyF am l ++ [m] else onlyF am l := by
  unfold onlyF
  rw [List.filter_append]
  split
  · rename_i h; rw [List.filter_cons, if_pos h]; rfl
  · rename_i h; rw [List.filter_cons, if_neg h]; simp
theorem onlyF_ok {n : Nat} {am : Int → Bool} {l : List Ma} (hl : ∀ m ∈ l, MaOk n m) : ∀ m ∈ onlyF am l, MaOk n m := fun m hm => hl m (List.mem_filter.1 hm).1
theorem rowsF_snoc {r : Ru} {n : Nat} {l : List Ma} {m : Ma} : rowsF r n (l ++ [m]) = stepR r (rowsF r n l) m := by simp [rowsF, List.foldl_append]
theorem stepR_set {r : Ru} {T : List Rw} {m : Ma} {n : Nat} (hm : MaOk n m) (hT : T.length = n) (x y : Rw) (hx : ∀ h : m.home.toNat < T.length, x = addR r T[m.home.toNat] (goA r m) (goB r m) (winL r m))
    (hy : ∀ h : m.away.toNat < T.length, y = addR r T[m.away.toNat] (goB r m) (goA r m) (- winL r m)) : (T.set m.home.toNat x).set m.away.toNat y = stepR r T m := by
  have a1 := hm.home
  have a2 := hm.away
  have a3 := hm.ne
  have l1 : m.home.toNat < T.length := by omega
  have l2 : m.away.toNat < T.length := by omega
  rw [hx l1, hy l2]
  unfold stepR
  refine List.ext_getElem (by simp) fun j h1 h2 => ?_
  rw [List.getElem_modify, List.getElem_modify, List.getElem_set, List.getElem_set]
  by_cases e1 : m.away.toNat = j
  · subst e1
    rw [if_pos rfl, if_pos rfl, if_neg (by omega)]
  · rw [if_neg e1, if_neg e1]
    by_cases e2 : m.home.toNat = j
    · subst e2; rw [if_pos rfl]
      try simp
    · rw [if_neg e2, if_neg e2]
theorem bd_use {k : Int} {x : Rw} (h : RowBd k x) (hk : k ≤ 1000) : (0 ≤ x.played ∧ x.played ≤ 1000000) ∧ (-1000000 ≤ x.fr ∧ x.fr ≤ 1000000) ∧ (-1000000 ≤ x.ag ∧ x.ag ≤ 1000000) ∧ ((0 ≤ x.won ∧ x.won ≤ 1000000) ∧ (0 ≤ x.lost ∧ x.lost ≤ 1000000) ∧ (0 ≤ x.drawn ∧ x.drawn ≤ 1000000) ∧ (0 ≤ x.pts ∧ x.pts ≤ 1000000)) := by
  obtain ⟨h1, h2, h3, h4, h5, h6, h7, h8, h9⟩ := h
  exact ⟨by omega, by omega, by omega, by omega, by omega, by omega, by omega⟩
section
variable {T : List Rw} {n : Nat} {r : Ru} {m : Ma} {x : Rw} {b : Nat} {H : AHeap} {sc a c : Int}
/-- a match is entered for the team at home -/
theorem add_home (hm : MaOk n m) (hr : RuOk r) (hT : T.length = n) (hbd : ∀ i (h : i < T.length), RowBd 1000 T[i]) (h1 : own b = true) (h2 : b < H.fresh) (h3 : H.get b = some (rwB T 9 false)) (h4 : -1000000 ≤ a ∧ a ≤ 1000000) (h5 : -1000000 ≤ c ∧ c ≤ 1000000) :
    Ret Tryd.prog 59 [.pointer (some ⟨b, 0 + m.home.toNat * 9, none⟩), I a, I c, I sc, ruV r] H (packA []) (H.put b (rwB (T.set m.home.toNat (addR r (T[m.home.toNat]?.getD (zeroR 0)) a c sc)) 9 false)) := by
  have a1 := hm.home
  have l1 : m.home.toNat < T.length := by omega
  obtain ⟨r1, r2, r3, r4, _⟩ := hr
  obtain ⟨q1, q2, q3, q4⟩ := bd_use (hbd _ l1) (by omega)
  have e : T[m.home.toNat]?.getD (zeroR 0) = T[m.home.toNat] := by simp [l1]
  rw [e]
  exact add_c (T := T) (i := m.home.toNat) (r := r) h1 h2 h3 l1 q1 q2 q3 q4 ⟨by omega, by omega, by omega⟩ h4 h5
theorem add_away (hm : MaOk n m) (hr : RuOk r) (hT : T.length = n) (hbd : ∀ i (h : i < T.length), RowBd 1000 T[i]) (h1 : own b = true) (h2 : b < H.fresh) (h3 : H.get b = some (rwB (T.set m.home.toNat x) 9 false)) (h4 : -1000000 ≤ a ∧ a ≤ 1000000) (h5 : -1000000 ≤ c ∧ c ≤ 1000000) :
    Ret Tryd.prog 59 [.pointer (some ⟨b, 0 + m.away.toNat * 9, none⟩), I a, I c, I sc, ruV r] H (packA []) (H.put b (rwB ((T.set m.home.toNat x).set m.away.toNat (addR r (T[m.away.toNat]?.getD (zeroR 0)) a c sc)) 9 false)) := by
  have a1 := hm.home
  have a2 := hm.away
  have a3 := hm.ne
  have l2 : m.away.toNat < T.length := by omega
  obtain ⟨r1, r2, r3, r4, _⟩ := hr
  have l3 : m.away.toNat < (T.set m.home.toNat x).length := by simpa using l2
  have e2 : (T.set m.home.toNat x)[m.away.toNat] = T[m.away.toNat] := List.getElem_set_ne (by omega) _
  obtain ⟨q1, q2, q3, q4⟩ := bd_use (hbd _ l2) (by omega)
  have e : T[m.away.toNat]?.getD (zeroR 0) = (T.set m.home.toNat x)[m.away.toNat] := by rw [e2]; simp [l2]
  rw [e]
  rw [← e2] at q1 q2 q3 q4
  exact add_c (T := T.set m.home.toNat x) (i := m.away.toNat) (r := r) h1 h2 h3 l3 q1 q2 q3 q4 ⟨by omega, by omega, by omega⟩ h4 h5
theorem two_sets (hm : MaOk n m) (hT : T.length = n) {a c s a' c' s' : Int} (e1 : a = goA r m) (e2 : c = goB r m) (e3 : s = winL r m) (e4 : a' = goB r m) (e5 : c' = goA r m) (e6 : s' = - winL r m) :
    (T.set m.home.toNat (addR r (T[m.home.toNat]?.getD (zeroR 0)) a c s)).set m.away.toNat (addR r (T[m.away.toNat]?.getD (zeroR 0)) a' c' s') = stepR r T m := by
  subst e1 e2 e3 e4 e5 e6
  exact stepR_set hm hT _ _ (fun h => by simp [h]) (fun h => by simp [h])
end
theorem rowsF_bdK {r : Ru} (hr : RuOk r) {n : Nat} (hn : n ≤ 24) {l : List Ma} (hl : ∀ m ∈ l, MaOk n m) (hlen : l.length ≤ 1000) : ∀ i (h : i < (rowsF r n l).length), RowBd 1000 (rowsF r n l)[i] := fun i h => (rowsF_bd hr hn hl h).le (by omega)
set_option maxHeartbeats 8000000 in
theorem rows_c {H : AHeap} {n : Nat} {q : Option Addr} {c g : Nat} {l : List Ma} {r : Ru} {caps : List Value} {am : Int → Bool} (hs : SlAt H 5 mt q l) (hlen : l.length ≤ 600) (hn : n ≤ 24) (hl : ∀ m ∈ l, MaOk n m) (hr : RuOk r) (hG : H.get 1 = some (.cells cs0 0 false true))
    (ham : ∀ k : Int, (0 ≤ k ∧ k < n) → ∀ H', Ext H H' → Ret Tryd.prog g (I k :: caps) H' (.bool (am k)) H') :
    Ret Tryd.prog 22 [I n, .slice q l.length c, ruV r, .func (.func g) #[] ⟨caps⟩] H (.slice (some ⟨H.fresh, 0, none⟩) n n) (H.add (rwB (rowsF r n (onlyF am l)) 9 false)) := by
  refine fn_start Tryd.func22 rfl rfl rfl fun hc => ?_
  apply ct_seq
  apply ct_region
  apply seq_newP; exact do_box rfl rfl rfl; exact rfl
  apply seq_plain; exact do_assign rfl; exact rfl
  apply seq_nil
  apply ct_seq
  apply ct_region
  apply seq_plain; exact do_move rfl; exact rfl
  apply seq_newS; exact mkRows rfl hn; exact rfl
  rw [← initS_zero]
  apply seq_plain; exact do_assign rfl; exact rfl
  apply seq_nil
  apply ct_seq
  apply ct_seq
  apply ct_region
  apply seq_plain; exact do_move rfl; exact rfl
  apply seq_plain; exact do_lenS rfl rfl rfl; exact rfl
  apply seq_plain; exact do_move rfl; exact rfl
  apply seq_nil
  apply ct_block
  apply ct_loop
  refine lt_meas (α := Nat) (fun i => [(1, .slice q l.length c), (3, .func (.func g) #[] ⟨caps⟩), (6, .pointer (some ⟨nb H 0, 0, none⟩)), (9, .slice (some ⟨nb H 1, 0, none⟩) n n), (20, I n), (21, I i)]) (fun i => ext H H.fresh [some (.cells (ruL r) 0 false false), some (rwB (initS n i) 9 false)]) (fun i => i ≤ n) (fun i => n - i) (fun i hi ih => ?_) 0 (by omega) (by repeat (first | exact sub_nil | apply sub_cons rfl)) (.refl _)
  apply ct_seq
  apply ct_region
  apply seq_plain; exact do_binInt rfl rfl rfl trivial; exact rfl
  apply seq_nil
  apply ct_seq
  refine ct_cond rfl (fun h1 => ?_) (fun h1 => ?_)
  · simp only [decide_eq_true_eq, Int.ofNat_lt] at h1
    have hil : i < (initS n i).length := by rw [initS_len]; exact h1
    have e0 : (initS n i)[i] = zeroR 0 := by simp [initS]
    apply ct_skip
    apply ct_seq
    apply ct_block
    apply ct_seq
    apply ct_region
    apply seq_plain; exact do_move rfl; exact rfl
    apply seq_plain; exact do_assign rfl; exact rfl
    apply seq_nil
    apply ct_region
    apply seq_plain; exact do_move rfl; exact rfl
    apply seq_plain; exact do_move rfl; exact rfl
    apply seq_plain; exact do_move rfl; exact rfl
    apply seq_plain; exact do_indexAddrS rfl rfl rfl (by exact idx_nat (by omega)); exact rfl
    apply seq_plain; exact do_fieldAddr rfl rfl; exact rfl
    apply seq_putC (hc := by assumption); rotate_left; exact do_store rfl rfl (by exact ext_get_new rfl) rfl (stl_flat (f := rw9) (w := 9) (j := 0) (x' := zeroR i) rw9_len hil (by omega) (by rw [e0]; rfl) rfl rfl) (nb_own _); rotate_left; exact Nat.le_of_ble_eq_true rfl
    rw [initS_set]
    apply ct_region
    apply seq_plain; exact do_succ rfl (by omega); exact rfl
    apply seq_plain; exact do_move rfl; exact rfl
    apply seq_nil
    exact lt_to (by repeat (first | exact sub_nil | apply sub_cons rfl)) (.refl _) (ih (i + 1) (by omega) (by omega))
  have h1 : i = n := by simp at h1; omega
  subst h1
  rw [initS_all]
  apply ct_exit
  apply exit_eq; exact rfl
  apply ct_seq
  apply ct_seq
  apply ct_region
  apply seq_plain; exact do_move rfl; exact rfl
  apply seq_plain; exact do_lenS rfl rfl rfl; exact rfl
  apply seq_plain; exact do_move rfl; exact rfl
  apply seq_nil
  apply ct_block
  apply ct_loop
  refine lt_meas (α := Nat × List (Option ABlk)) (fun a => [(3, .func (.func g) #[] ⟨caps⟩), (6, .pointer (some ⟨nb H 0, 0, none⟩)), (9, .slice (some ⟨nb H 1, 0, none⟩) i i), (30, .slice q l.length c), (31, I l.length), (32, I a.1)]) (fun a => ext H H.fresh a.2)
    (fun a => a.1 ≤ l.length ∧ a.2[0]? = some (some (.cells (ruL r) 0 false false)) ∧ a.2[1]? = some (some (rwB (rowsF r i (onlyF am (l.take a.1))) 9 false))) (fun a => l.length - a.1) (fun a ha ih2 => ?_) (0, [some (.cells (ruL r) 0 false false), some (rwB (initR i) 9 false)]) ⟨by simp, rfl, rfl⟩ (by repeat (first | exact sub_nil | apply sub_cons rfl)) (.refl _)
  obtain ⟨j, L⟩ := a
  obtain ⟨hj, hL0, hL1⟩ := ha
  simp only at hj hL0 hL1 ih2 ⊢
  have ih' := fun i' L' a1 a2 a3 a4 => ih2 (i', L') a1 ⟨a2, a3, a4⟩
  simp only at ih'
  clear ih2
  have hLl : 1 < L.length := (List.getElem?_eq_some_iff.1 hL1).1
  apply ct_seq
  apply ct_region
  apply seq_plain; exact do_binInt rfl rfl rfl trivial; exact rfl
  apply seq_nil
  apply ct_seq
  refine ct_cond rfl (fun h1 => ?_) (fun h1 => ?_)
  · simp only [decide_eq_true_eq, Int.ofNat_lt] at h1
    obtain ⟨b, o, cs, z, s, ro, rfl, hg, hw⟩ := hs.out (by intro e; rw [e] at h1; simp at h1)
    have hm := hl l[j] (List.getElem_mem h1)
    have hmh := hm.home
    have hma := hm.away
    have hmf := hm.fr
    have hmg := hm.ag
    have hrf := hr.frames
    have hT : (rowsF r i (onlyF am (l.take j))).length = i := rowsF_len
    have hbd := rowsF_bdK hr hn (onlyF_ok (am := am) (fun m hm => hl m (List.mem_of_mem_take hm) : ∀ m ∈ l.take j, MaOk i m)) (Nat.le_trans (List.length_filter_le _ _) (by rw [List.length_take]; omega))
    apply ct_skip
    apply ct_seq
    apply ct_block
    apply ct_seq
    apply ct_region
    apply seq_plain; exact do_indexAddrS rfl rfl rfl (by exact idx_nat (by omega)); exact rfl
    apply seq_plain; exact do_load rfl (by exact ext_get_old (by assumption) (by assumption)) rfl (by exact pt_sl (by assumption) (by omega)); exact rfl
    apply seq_newP; exact do_alloc rfl rfl; exact rfl
    apply seq_putC (hc := by assumption); rotate_left; exact do_store rfl rfl (by exact ext_get_new List.getElem?_concat_length) rfl rfl (nb_own _); rotate_left; exact (by simp)
    apply ct_seq
    apply ct_seq
    apply ct_region
    apply seq_plain; exact do_move rfl; exact rfl
    apply seq_plain; exact do_fieldAddr rfl rfl; exact rfl
    apply seq_plain; exact do_load rfl (by exact ext_get_new getSetLast) rfl (by exact rfl); exact rfl
    rw [set_mid rfl]
    obtain ⟨y8, e8⟩ : ∃ y : ABlk, y = .cells [I l[j].home, I l[j].away, I l[j].fr, I l[j].ag, .string l[j].kind] 0 false false := ⟨_, rfl⟩
    have g8 : (L ++ [some y8])[L.length]? = some (some y8) := List.getElem?_concat_length
    have g0 : (L ++ [some y8])[0]? = some (some (.cells (ruL r) 0 false false)) := getApp hL0
    have g1 : (L ++ [some y8])[1]? = some (some (rwB (rowsF r i (onlyF am (l.take j))) 9 false)) := getApp hL1
    have gl : 1 < (L ++ [some y8]).length := by simp; omega
    rw [e8] at g8 g0 g1 gl
    skip
    apply seq_call (ht := rfl); exact ham l[j].home hmh _ (ext_Ext hc); exact rfl
    apply seq_plain; exact do_unOp rfl rfl; exact rfl
    apply seq_plain; exact do_move rfl; exact rfl
    refine seq_J [(3, .func (.func g) #[] ⟨caps⟩), (6, .pointer (some ⟨nb H 0, 0, none⟩)), (9, .slice (some ⟨nb H 1, 0, none⟩) i i), (12, .pointer (some ⟨nb H L.length, 0, none⟩)), (30, .slice (some ⟨b, o, none⟩) l.length c), (31, I l.length), (32, I j), (47, .bool (!(am l[j].home && am l[j].away)))] (ds := []) (h := ext H H.fresh (L ++ [some (ABlk.cells [I l[j].home, I l[j].away, I l[j].fr, I l[j].ag, .string l[j].kind] 0 false false)])) ?_ ?_
    · refine seq_gsplit rfl rfl (fun u1 => ?_) (fun u1 => ?_)
      · have u1 : (!am l[j].home) = true := u1
        have u1 : am l[j].home = false := by simpa using u1
        rw [u1, Bool.false_and]
        apply seq_passed (hd := rfl) (hl := rfl) (hb := rfl); exact rfl
        apply seq_passed (hd := rfl) (hl := rfl) (hb := rfl); exact rfl
        apply seq_passed (hd := rfl) (hl := rfl) (hb := rfl); exact rfl
        apply seq_passed (hd := rfl) (hl := rfl) (hb := rfl); exact rfl
        apply seq_passed (hd := rfl) (hl := rfl) (hb := rfl); exact rfl
        apply seq_plain; exact do_pick_t rfl rfl; exact rfl
        apply seq_nil
        exact jp_of (by repeat (first | exact sub_nil | apply sub_cons rfl))
      · have u1 : (!am l[j].home) = false := u1
        have u1 : am l[j].home = true := by simpa using u1
        rw [u1, Bool.true_and]
        apply seq_guard (hd := rfl) (hl := rfl); exact do_move rfl; exact rfl
        apply seq_guard (hd := rfl) (hl := rfl); exact do_fieldAddr rfl rfl; exact rfl
        apply seq_guard (hd := rfl) (hl := rfl); exact do_load rfl (by exact ext_get_new List.getElem?_concat_length) rfl (by exact rfl); exact rfl
        apply seq_gcall (hg := rfl) (hl := rfl) (ht := rfl); exact ham l[j].away hma _ (ext_Ext hc); exact rfl
        apply seq_guard (hd := rfl) (hl := rfl); exact do_unOp rfl rfl; exact rfl
        apply seq_plain; exact do_pick_f rfl rfl; exact rfl
        apply seq_nil
        exact jp_of (by repeat (first | exact sub_nil | apply sub_cons rfl))
    refine ct_cond rfl (fun h2 => ?_) (fun h2 => ?_)
    · have h2 : ¬ (am l[j].home && am l[j].away) = true := fun e => by rw [e] at h2; simp at h2
      apply ct_exit
      apply exit_eq; exact rfl
      apply ct_region
      apply seq_plain; exact do_succ rfl (by omega); exact rfl
      apply seq_plain; exact do_move rfl; exact rfl
      apply seq_nil
      refine lt_to (by repeat (first | exact sub_nil | apply sub_cons rfl)) (.refl _) (ih' (j + 1) _ (by omega) (by omega) g0 ?_)
      rw [take_snoc h1, onlyF_snoc, if_neg h2]; exact g1
    have h2 : (am l[j].home && am l[j].away) = true := by
      cases e : (am l[j].home && am l[j].away)
      · rw [e] at h2; simp at h2
      · rfl
    have hfin : ∀ {L' : List (Option ABlk)} {T' : List Rw}, L'[1]? = some (some (rwB T' 9 false)) → T' = stepR r (rowsF r i (onlyF am (l.take j))) l[j] → L'[1]? = some (some (rwB (rowsF r i (onlyF am (l.take (j + 1)))) 9 false)) := fun h e => by
      rw [take_snoc h1, onlyF_snoc, if_pos h2, rowsF_snoc, ← e]; exact h
    apply ct_skip
    apply ct_seq
    apply ct_region
    apply seq_plain; exact do_load rfl (by exact ext_get_new List.getElem?_concat_length) rfl (by exact rfl); exact rfl
    apply seq_call (ht := rfl); exact side161 (m := l[j]) (ext_Ext hc _ _ hG); exact rfl
    apply seq_plain; exact do_move rfl; exact rfl
    apply seq_plain; exact do_extract rfl rfl; exact rfl
    apply seq_plain; exact do_extract rfl rfl; exact rfl
    apply seq_plain; exact do_assign rfl; exact rfl
    apply seq_plain; exact do_assign rfl; exact rfl
    apply seq_nil
    apply ct_seq
    apply ct_draw (by assumption); decide +kernel
    apply sd_plain (hfree := rfl); intro _; exact do_fieldAddr rfl rfl; exact rfl
    apply sd_look (hfree := rfl); exact do_load rfl (by exact ext_get_new (getApp (by assumption))) rfl (by exact rfl); exact rfl
    apply sd_plain (hfree := rfl); intro _; exact do_fieldAddr rfl rfl; exact rfl
    apply sd_look (hfree := rfl); exact do_load rfl (by exact ext_get_new (getApp (by assumption))) rfl (by exact rfl); exact rfl
    apply sd_plain (hfree := rfl); intro _; exact do_assign rfl; exact rfl
    apply sd_plain (hfree := rfl); intro _; exact do_assign rfl; exact rfl
    apply sd_nil
    apply ct_seq
    apply ct_seq
    apply ct_region
    apply seq_plain; exact do_move rfl; exact rfl
    apply seq_nil
    apply ct_block
    apply ct_seq
    apply ct_region
    apply seq_plain; exact do_binInt rfl rfl rfl trivial; exact rfl
    apply seq_plain; exact do_assign rfl; exact rfl
    apply seq_nil
    refine ct_cond rfl (fun h3 => ?_) (fun h3 => ?_)
    · have h3 : sideL l[j].kind = 1 := by simpa using h3
      have hsd : -1 ≤ sideL l[j].kind ∧ sideL l[j].kind ≤ 1 := by omega
      apply ct_region
      apply seq_plain; exact do_fieldAddr rfl rfl; exact rfl
      apply seq_plain; exact do_load rfl (by exact ext_get_new (getApp (by assumption))) rfl (by exact rfl); exact rfl
      apply seq_plain; exact do_assign rfl; exact rfl
      apply seq_nil
      apply ct_seq
      apply ct_draw (by assumption); decide +kernel
      apply sd_plain (hfree := rfl); intro _; exact do_move rfl; exact rfl
      apply sd_plain (hfree := rfl); intro _; exact do_fieldAddr rfl rfl; exact rfl
      apply sd_look (hfree := rfl); exact do_load rfl (by exact ext_get_new (getApp (getApp (by assumption)))) rfl (by exact rfl); exact rfl
      apply sd_plain (hfree := rfl); intro _; exact do_indexAddrS rfl rfl rfl (by exact idx_int (by omega)); exact rfl
      apply sd_plain (hfree := rfl); intro _; exact do_move rfl; exact rfl
      apply sd_plain (hfree := rfl); intro _; exact do_move rfl; exact rfl
      apply sd_plain (hfree := rfl); intro _; exact do_move rfl; exact rfl
      apply sd_look (hfree := rfl); exact do_load rfl (by exact ext_get_new (getApp (getApp (by assumption)))) rfl (by exact rfl); exact rfl
      refine sd_callPQ (k := 1) (by decide +kernel) hc (by simp; omega) rfl (add_home hm hr hT hbd (nb_own _) (nb_lt (by simp; omega)) (ext_get_new (getApp g1)) (by omega) (by omega)) rfl (fun L1 hl1 ho1 hk1 => ?_)
      have f8 := (ho1 L.length (by omega)).trans (getApp g8)
      have f0 := (ho1 0 (by omega)).trans (getApp g0)
      apply sd_nil
      apply ct_draw (by assumption); decide +kernel
      apply sd_plain (hfree := rfl); intro _; exact do_move rfl; exact rfl
      apply sd_plain (hfree := rfl); intro _; exact do_fieldAddr rfl rfl; exact rfl
      apply sd_look (hfree := rfl); exact do_load rfl (by exact ext_get_new (getApp (getApp (by assumption)))) rfl (by exact rfl); exact rfl
      apply sd_plain (hfree := rfl); intro _; exact do_indexAddrS rfl rfl rfl (by exact idx_int (by omega)); exact rfl
      apply sd_plain (hfree := rfl); intro _; exact do_move rfl; exact rfl
      apply sd_plain (hfree := rfl); intro _; exact do_move rfl; exact rfl
      apply sd_plain (hfree := rfl); intro _; exact do_move rfl; exact rfl
      apply sd_plain (hfree := rfl); intro _; exact do_neg rfl (by omega); exact rfl
      apply sd_look (hfree := rfl); exact do_load rfl (by exact ext_get_new (getApp (getApp (by assumption)))) rfl (by exact rfl); exact rfl
      refine sd_callPQ (k := 1) (by decide +kernel) hc (by simp at hl1 ⊢; omega) rfl (add_away hm hr hT hbd (nb_own _) (nb_lt (by simp at hl1 ⊢; omega)) (ext_get_new (getApp hk1)) (by omega) (by omega)) rfl (fun L2 hl2 ho2 hk2 => ?_)
      apply sd_nil
      apply ct_region
      apply seq_plain; exact do_succ rfl (by omega); exact rfl
      apply seq_plain; exact do_move rfl; exact rfl
      apply seq_nil
      refine lt_to (by repeat (first | exact sub_nil | apply sub_cons rfl)) (.refl _) (ih' (j + 1) _ (by omega) (by omega) ?_ (hfin (getApp hk2) (two_sets hm hT ?_ ?_ ?_ ?_ ?_ ?_)))
      · exact getApp ((ho2 0 (by omega)).trans (getApp f0))
      all_goals simp [goA, goB, winL, h3]
    have h3 : ¬ sideL l[j].kind = 1 := by simpa using h3
    apply ct_seq
    apply ct_region
    apply seq_plain; exact do_binInt rfl rfl rfl trivial; exact rfl
    apply seq_plain; exact do_assign rfl; exact rfl
    apply seq_nil
    refine ct_cond rfl (fun h4 => ?_) (fun h4 => ?_)
    · have h4 : sideL l[j].kind = -1 := by simpa using h4
      have hsd : -1 ≤ sideL l[j].kind ∧ sideL l[j].kind ≤ 1 := by omega
      apply ct_region
      apply seq_plain; exact do_fieldAddr rfl rfl; exact rfl
      apply seq_plain; exact do_load rfl (by exact ext_get_new (getApp (by assumption))) rfl (by exact rfl); exact rfl
      apply seq_plain; exact do_assign rfl; exact rfl
      apply seq_nil
      apply ct_seq
      apply ct_draw (by assumption); decide +kernel
      apply sd_plain (hfree := rfl); intro _; exact do_move rfl; exact rfl
      apply sd_plain (hfree := rfl); intro _; exact do_fieldAddr rfl rfl; exact rfl
      apply sd_look (hfree := rfl); exact do_load rfl (by exact ext_get_new (getApp (getApp (by assumption)))) rfl (by exact rfl); exact rfl
      apply sd_plain (hfree := rfl); intro _; exact do_indexAddrS rfl rfl rfl (by exact idx_int (by omega)); exact rfl
      apply sd_plain (hfree := rfl); intro _; exact do_move rfl; exact rfl
      apply sd_plain (hfree := rfl); intro _; exact do_move rfl; exact rfl
      apply sd_plain (hfree := rfl); intro _; exact do_move rfl; exact rfl
      apply sd_look (hfree := rfl); exact do_load rfl (by exact ext_get_new (getApp (getApp (by assumption)))) rfl (by exact rfl); exact rfl
      refine sd_callPQ (k := 1) (by decide +kernel) hc (by simp; omega) rfl (add_home hm hr hT hbd (nb_own _) (nb_lt (by simp; omega)) (ext_get_new (getApp g1)) (by omega) (by omega)) rfl (fun L1 hl1 ho1 hk1 => ?_)
      have f8 := (ho1 L.length (by omega)).trans (getApp g8)
      have f0 := (ho1 0 (by omega)).trans (getApp g0)
      apply sd_nil
      apply ct_draw (by assumption); decide +kernel
      apply sd_plain (hfree := rfl); intro _; exact do_move rfl; exact rfl
      apply sd_plain (hfree := rfl); intro _; exact do_fieldAddr rfl rfl; exact rfl
      apply sd_look (hfree := rfl); exact do_load rfl (by exact ext_get_new (getApp (getApp (by assumption)))) rfl (by exact rfl); exact rfl
      apply sd_plain (hfree := rfl); intro _; exact do_indexAddrS rfl rfl rfl (by exact idx_int (by omega)); exact rfl
      apply sd_plain (hfree := rfl); intro _; exact do_move rfl; exact rfl
      apply sd_plain (hfree := rfl); intro _; exact do_move rfl; exact rfl
      apply sd_plain (hfree := rfl); intro _; exact do_move rfl; exact rfl
      apply sd_plain (hfree := rfl); intro _; exact do_neg rfl (by omega); exact rfl
      apply sd_look (hfree := rfl); exact do_load rfl (by exact ext_get_new (getApp (getApp (by assumption)))) rfl (by exact rfl); exact rfl
      refine sd_callPQ (k := 1) (by decide +kernel) hc (by simp at hl1 ⊢; omega) rfl (add_away hm hr hT hbd (nb_own _) (nb_lt (by simp at hl1 ⊢; omega)) (ext_get_new (getApp hk1)) (by omega) (by omega)) rfl (fun L2 hl2 ho2 hk2 => ?_)
      apply sd_nil
      apply ct_region
      apply seq_plain; exact do_succ rfl (by omega); exact rfl
      apply seq_plain; exact do_move rfl; exact rfl
      apply seq_nil
      refine lt_to (by repeat (first | exact sub_nil | apply sub_cons rfl)) (.refl _) (ih' (j + 1) _ (by omega) (by omega) ?_ (hfin (getApp hk2) (two_sets hm hT ?_ ?_ ?_ ?_ ?_ ?_)))
      · exact getApp ((ho2 0 (by omega)).trans (getApp f0))
      all_goals simp [goA, goB, winL, h3, h4]
    · have h4 : ¬ sideL l[j].kind = -1 := by simpa using h4
      apply ct_region
      apply seq_plain; exact do_move rfl; exact rfl
      apply seq_plain; exact do_move rfl; exact rfl
      apply seq_plain; exact do_sub rfl rfl (by omega); exact rfl
      apply seq_plain; exact do_assign rfl; exact rfl
      apply seq_nil
      apply ct_seq
      apply ct_draw (by assumption); decide +kernel
      apply sd_plain (hfree := rfl); intro _; exact do_move rfl; exact rfl
      apply sd_plain (hfree := rfl); intro _; exact do_fieldAddr rfl rfl; exact rfl
      apply sd_look (hfree := rfl); exact do_load rfl (by exact ext_get_new (getApp (getApp (by assumption)))) rfl (by exact rfl); exact rfl
      apply sd_plain (hfree := rfl); intro _; exact do_indexAddrS rfl rfl rfl (by exact idx_int (by omega)); exact rfl
      apply sd_plain (hfree := rfl); intro _; exact do_move rfl; exact rfl
      apply sd_plain (hfree := rfl); intro _; exact do_move rfl; exact rfl
      apply sd_plain (hfree := rfl); intro _; exact do_move rfl; exact rfl
      apply sd_look (hfree := rfl); exact do_load rfl (by exact ext_get_new (getApp (getApp (by assumption)))) rfl (by exact rfl); exact rfl
      refine sd_callPQ (k := 1) (by decide +kernel) hc (by simp; omega) rfl (add_home hm hr hT hbd (nb_own _) (nb_lt (by simp; omega)) (ext_get_new (getApp g1)) (by omega) (by omega)) rfl (fun L1 hl1 ho1 hk1 => ?_)
      have f8 := (ho1 L.length (by omega)).trans (getApp g8)
      have f0 := (ho1 0 (by omega)).trans (getApp g0)
      apply sd_nil
      apply ct_draw (by assumption); decide +kernel
      apply sd_plain (hfree := rfl); intro _; exact do_move rfl; exact rfl
      apply sd_plain (hfree := rfl); intro _; exact do_fieldAddr rfl rfl; exact rfl
      apply sd_look (hfree := rfl); exact do_load rfl (by exact ext_get_new (getApp (getApp (by assumption)))) rfl (by exact rfl); exact rfl
      apply sd_plain (hfree := rfl); intro _; exact do_indexAddrS rfl rfl rfl (by exact idx_int (by omega)); exact rfl
      apply sd_plain (hfree := rfl); intro _; exact do_move rfl; exact rfl
      apply sd_plain (hfree := rfl); intro _; exact do_move rfl; exact rfl
      apply sd_plain (hfree := rfl); intro _; exact do_move rfl; exact rfl
      apply sd_plain (hfree := rfl); intro _; exact do_neg rfl (by omega); exact rfl
      apply sd_look (hfree := rfl); exact do_load rfl (by exact ext_get_new (getApp (getApp (by assumption)))) rfl (by exact rfl); exact rfl
      refine sd_callPQ (k := 1) (by decide +kernel) hc (by simp at hl1 ⊢; omega) rfl (add_away hm hr hT hbd (nb_own _) (nb_lt (by simp at hl1 ⊢; omega)) (ext_get_new (getApp hk1)) (by omega) (by omega)) rfl (fun L2 hl2 ho2 hk2 => ?_)
      apply sd_nil
      apply ct_region
      apply seq_plain; exact do_succ rfl (by omega); exact rfl
      apply seq_plain; exact do_move rfl; exact rfl
      apply seq_nil
      refine lt_to (by repeat (first | exact sub_nil | apply sub_cons rfl)) (.refl _) (ih' (j + 1) _ (by omega) (by omega) ?_ (hfin (getApp hk2) (two_sets hm hT ?_ ?_ ?_ ?_ ?_ ?_)))
      · exact getApp ((ho2 0 (by omega)).trans (getApp f0))
      all_goals simp [goA, goB, winL, h3, h4]
  · have h1 : j = l.length := by simp at h1; omega
    subst h1
    rw [List.take_length] at hL1
    apply ct_exit
    apply exit_eq; exact rfl
    apply ct_seq
    apply ct_region
    apply seq_plain; exact do_move rfl; exact rfl
    apply seq_plain; exact do_assign rfl; exact rfl
    apply seq_nil
    apply ct_ret
    refine fin_one hc rfl hL1 (rw_flat _) ?_ ⟨rfl, rfl⟩
    simp [packA, renV, renOf_one (H := H) ⟨own_iff.1 (nb_own 1), nb_ge 1⟩]
end Go.Proofs.YtppflopinmkpgaaDoor
