/- Contracts: Used and Worn (up to 12 bookings). -/
import Derived.Test.YtmcecjplgalcgaaGreatDoorWoB
noncomputable section
namespace Go.Proofs.YtmcecjplgalcgaaGreatDoor
open Go Go.Den
set_option maxRecDepth 100000
/-! ### what the tables are used -/
def useS (u : List Int) (n : Int) (x : Bk) : List Int := u.set n.toNat (u[n.toNat]?.getD 0 + lenB x)
def useI (n : Nat) (l : List Bk) (A : List Int) : Nat → List Int
 | 0 => List.replicate n 0
 | i + 1 => match l[i]?, A[i]? with
  | some x, some k => useS (useI n l A i) k x
  | _, _ => useI n l A i
theorem useI_len {n : Nat} {l : List Bk} {A : List Int} : ∀ {i : Nat}, (useI n l A i).length = n
 | 0 => by simp [useI]
 | i + 1 => by
  simp only [useI]
  split
  ·unfold useS; rw [List.length_set, useI_len]
  ·exact useI_len
theorem useI_succ {n : Nat} {l : List Bk} {A : List Int} {i : Nat} (h : i < l.length) (hA : i < A.length) : useI n l A (i + 1) = useS (useI n l A i) A[i] l[i] := by
 simp only [useI, List.getElem?_eq_getElem h, List.getElem?_eq_getElem hA]
theorem useI_bd {n : Nat} {l : List Bk} {A : List Int} (hl : ∀ x ∈ l, 0 ≤ lenB x ∧ lenB x ≤ 99999) : ∀ (i : Nat), ∀ y ∈ useI n l A i, 0 ≤ y ∧ y ≤ 99999 * (i : Int)
 | 0, y, h => by
  simp only [useI] at h
  rw [(List.mem_replicate.1 h).2]; simp
 | i + 1, y, h => by
  have ih := useI_bd (A := A) (n := n) hl i
  have key : ∀ y ∈ useI n l A i, 0 ≤ y ∧ y ≤ 99999 * ((i + 1 : Nat) : Int) := fun y h => by have := ih y h; omega
  simp only [useI] at h
  split at h
  ·rename_i x m hx hm
   have hb := hl x (List.mem_of_getElem? hx)
   unfold useS at h
   rcases List.mem_or_eq_of_mem_set h with h | rfl
   ·exact key y h
   ·cases e2 : (useI n l A i)[m.toNat]? with
    | none => simp only [Option.getD_none]; omega
    | some z =>
     have := ih z (List.mem_of_getElem? e2)
     simp only [Option.getD_some]; omega
  ·exact key y h
def usedV (t : List Tb) (l : List Bk) (A : List Int) : List Int := useI t.length l A l.length
def ownB (l : List Bk) (A : List Int) (n : Nat) : Nat → List Bk
 | 0 => []
 | i + 1 => match l[i]? with
  | some x => if A[i]? = some (n : Int) then ownB l A n i ++ [x] else ownB l A n i
  | none => ownB l A n i
theorem ownB_succ {l : List Bk} {A : List Int} {n i : Nat} (h : i < l.length) : ownB l A n (i + 1) = if A[i]? = some (n : Int) then ownB l A n i ++ [l[i]] else ownB l A n i := by
 simp only [ownB, List.getElem?_eq_getElem h]
theorem ownB_len {l : List Bk} {A : List Int} {n : Nat} : ∀ i, (ownB l A n i).length ≤ i
 | 0 => Nat.le_refl _
 | i + 1 => by
  have := ownB_len (l := l) (A := A) (n := n) i
  simp only [ownB]
  split
  ·split
   ·simp; omega
   ·omega
  ·omega
theorem ownB_mem {l : List Bk} {A : List Int} {n : Nat} : ∀ i, ∀ x ∈ ownB l A n i, x ∈ l
 | 0, x, h => by simp [ownB] at h
 | i + 1, x, h => by
  simp only [ownB] at h
  split at h
  ·rename_i y hy
   split at h
   ·rcases List.mem_append.1 h with h | h
    ·exact ownB_mem i x h
    ·rw [List.mem_singleton.1 h]; exact List.mem_of_getElem? hy
   ·exact ownB_mem i x h
  ·exact ownB_mem i x h
def wornK (l : List Bk) (A : List Int) (lim : Int) (n : Nat) : Int := wornL (isort ltB (ownB l A n l.length)) lim
def wornV (t : List Tb) (l : List Bk) (A : List Int) (lim : Int) : List Int := (List.range t.length).map (wornK l A lim)
theorem range_snoc {f : Nat → Int} (i : Nat) : (List.range (i + 1)).map f = (List.range i).map f ++ [f i] := by rw [List.range_succ, List.map_append]; rfl
theorem bkIn_of {x : Bk} (h : BkOk x) : BkIn x := ⟨h.f0, h.f1, h.t0, h.t1, h.lt⟩
theorem casE_ok {t : List Tb} {l : List Bk} {A : List Int} (h : casE t l A = 0) : bothE t l = 0 ∧ A.length = l.length ∧ chkA t l A = 0 := by
 unfold casE at h
 have ha := firstL_allZ h
 have h2 := whenL_z (ha (whenL ((A.length : Int) != l.length) 2) (by simp)) (by decide)
 refine ⟨ha _ (by simp), ?_, ha _ (by simp)⟩
 have : (A.length : Int) = l.length := by simpa using h2
 omega
theorem chkA_in {t : List Tb} {l : List Bk} {A : List Int} (h : chkA t l A = 0) {i : Nat} (hi : i < l.length) (hA : i < A.length) : 0 ≤ A[i] ∧ A[i] < t.length := by
 have h1 : chkI t l A i = 0 := by
  unfold chkA at h
  exact firstL_allZ h _ (List.mem_map.2 ⟨i, List.mem_range.2 hA, rfl⟩)
 rw [chkI_at hi hA] at h1
 by_cases e : A[i] < 0 ∨ A[i] ≥ t.length
 ·rw [if_pos e] at h1; exact absurd h1 (by decide)
 ·omega
theorem lenB_in {t : List Tb} {l : List Bk} (h : bothE t l = 0) : ∀ x ∈ l, 0 ≤ lenB x ∧ lenB x ≤ 99999 := fun x hx => by
 have := (both_ok h).ok x hx
 have h1 := this.f0
 have h2 := this.lt
 have h3 := this.t1
 unfold lenB
 omega
def usedVal (H : AHeap) (t : List Tb) (l : List Bk) (A : List Int) : Value := .tuple ⟨[if casE t l A = 0 then .slice (some ⟨H.fresh, 0, none⟩) t.length t.length else .slice none 0 0, I (casE t l A)]⟩
def usedH (H : AHeap) (t : List Tb) (l : List Bk) (A : List Int) : AHeap := if casE t l A = 0 then H.add (.cells ((usedV t l A).map I) 1 false false) else H
theorem repl_int2 : ∀ n, repl [I 0] n = (List.replicate n (0 : Int)).map I
 | 0 => rfl
 | n + 1 => by simp [repl, repl_int2 n, List.replicate_succ]
set_option maxHeartbeats 8000000 in
theorem Used_c {H : AHeap} {q r w : Option Addr} {c d e : Nat} {t : List Tb} {l : List Bk} {A : List Int} (hs : SlAt H 2 tb q t) (hlow : LowS q c t.length) (hn : t.length < 1000000) (hr : SlAt H 4 bk r l) (hlow2 : LowS r d l.length) (hm : l.length < 1000000) (hw : SlAt H 1 i1 w A) (hA : A.length < 1000000) :
  Ret Tryz.prog 10 [.slice q t.length c, .slice r l.length d, .slice w A.length e] H (usedVal H t l A) (usedH H t l A) := by
 refine fn_start Tryz.func10 rfl rfl rfl fun hc => ?_
 apply ct_seq
 apply ct_region
 iterate 2 (apply seq_plain; exact do_assign rfl; exact rfl)
 apply seq_nil
 iterate 2 (apply ct_seq)
 apply ct_region
 iterate 3 (apply seq_plain; exact do_move rfl; exact rfl)
 apply seq_call (ht := rfl); exact CheckAssign_c (hs.ext (ext_Ext hc)) hlow hn (hr.ext (ext_Ext hc)) hlow2 hm (hw.ext (ext_Ext hc)) hA; exact rfl
 apply seq_plain; exact do_assign rfl; exact rfl
 apply seq_nil
 apply ct_seq
 apply ct_region
 apply seq_plain; exact do_move rfl; exact rfl
 apply seq_plain; exact do_binInt rfl rfl rfl trivial; exact rfl
 apply seq_nil
 refine ct_cond rfl (fun u => ?_) (fun u => ?_)
 ·have u : casE t l A ≠ 0 := by simpa using u
  unfold usedVal usedH
  rw [if_neg u, if_neg u]
  apply ct_seq
  apply ct_region
  apply seq_plain; exact do_move rfl; exact rfl
  iterate 2 (apply seq_plain; exact do_assign rfl; exact rfl)
  apply seq_nil
  apply ct_ret
  exact fin_flat hc rfl rfl ⟨rfl, rfl⟩
 have u : casE t l A = 0 := by simpa using u
 obtain ⟨hb, hAl, hk⟩ := casE_ok u
 have hlb := lenB_in hb
 have hok := (both_ok hb).ok
 unfold usedVal usedH
 rw [if_pos u, if_pos u, u]
 apply ct_skip
 apply ct_seq
 apply ct_region
 apply seq_plain; exact do_move rfl; exact rfl
 apply seq_plain; exact do_lenS rfl rfl rfl; exact rfl
 apply seq_newS; exact do_makeSlice rfl rfl rfl rfl rfl rfl (Nat.le_refl _) (by omega) (Nat.le_trans (Nat.mul_le_mul_left _ (Nat.le_of_lt hn)) (Nat.le_of_ble_eq_true rfl)); exact rfl
 refine seqL_to (l' := [(0, .slice q t.length c), (1, .slice r l.length d), (2, .slice w A.length e), (21, .slice (some ⟨nb H 0, 0, none⟩) t.length t.length)]) (h' := ext H H.fresh ([] ++ [some (.cells (repl [I 0] t.length) 1 false false)])) (by repeat (first | exact sub_nil | apply sub_cons rfl)) (.refl _) (by simp) ?_
 have w0 : repl [I 0] t.length = (useI t.length l A 0).map I := by rw [repl_int2]; rfl
 rw [w0]
 apply seq_plain; exact do_assign rfl; exact rfl
 apply seq_nil
 iterate 2 (apply ct_seq)
 apply ct_region
 apply seq_plain; exact do_move rfl; exact rfl
 apply seq_plain; exact do_lenS rfl rfl rfl; exact rfl
 apply seq_plain; exact do_move rfl; exact rfl
 apply seq_nil
 apply ct_block
 apply ct_loop
 refine lt_meas (α := Nat × List (Option ABlk)) (fun a => [(2, .slice w A.length e), (9, .slice (some ⟨nb H 0, 0, none⟩) t.length t.length), (22, .slice r l.length d), (23, I l.length), (24, I a.1)]) (fun a => ext H H.fresh a.2) (fun a => a.1 ≤ l.length ∧ a.2[0]? = some (some (.cells ((useI t.length l A a.1).map I) 1 false false))) (fun a => l.length - a.1) (fun a ha ih => ?_) (0, [some (.cells ((useI t.length l A 0).map I) 1 false false)]) ⟨Nat.zero_le _, rfl⟩ (by repeat (first | exact sub_nil | apply sub_cons rfl)) (.refl _)
 obtain ⟨i, L⟩ := a
 obtain ⟨hi, hL⟩ := ha
 simp only at hi hL ih ⊢
 have ih' := fun i' L' a1 a2 a3 => ih (i', L') a1 ⟨a2, a3⟩
 simp only at ih'
 clear ih
 apply ct_seq
 apply ct_region
 apply seq_plain; exact do_binInt rfl rfl rfl trivial; exact rfl
 apply seq_nil
 apply ct_seq
 refine ct_cond rfl (fun v => ?_) (fun v => ?_)
 ·simp only [decide_eq_true_eq, Int.ofNat_lt] at v
  have hiA : i < A.length := by omega
  obtain ⟨b2, o2, cs2, z2, st2, ro2, rfl, hg2, hw2⟩ := hr.out (by intro e; rw [e] at v; simp at v)
  obtain ⟨b5, o5, cs5, z5, st5, ro5, rfl, hg5, hw5⟩ := hw.out (by intro e; rw [e] at hiA; simp at hiA)
  have hk1 := chkA_in hk v hiA
  have hx := hok _ (List.getElem_mem v)
  have x0 := hx.f0
  have x1 := hx.f1
  have x2 := hx.t0
  have x3 := hx.t1
  have x4 := hx.lt
  have us := useI_succ (n := t.length) v hiA
  have ul := useI_len (n := t.length) (l := l) (A := A) (i := i)
  have ub := useI_bd (A := A) (n := t.length) hlb i
  obtain ⟨U, hU⟩ : ∃ U, U = useI t.length l A i := ⟨_, rfl⟩
  rw [← hU] at hL us ul ub
  clear hU
  have hkt : A[i].toNat < U.length := by omega
  have ub1 := ub _ (List.getElem_mem hkt)
  have us2 : U.set A[i].toNat (U[A[i].toNat] + (l[i].to - l[i].frm)) = useI t.length l A (i + 1) := by rw [us]; unfold useS lenB; rw [List.getElem?_eq_getElem hkt, Option.getD_some]
  apply ct_skip
  apply ct_seq
  apply ct_block
  apply ct_seq
  apply ct_region
  apply seq_plain; exact do_move rfl; exact rfl
  apply seq_plain; exact do_indexAddrS rfl rfl rfl (by exact idx_nat (by omega)); exact rfl
  apply seq_plain; exact do_load rfl (by exact ext_get_old (by assumption) (by assumption)) rfl (by exact pt_sl (by assumption) (by omega)); exact rfl
  apply seq_newP; exact do_alloc rfl rfl; exact rfl
  apply seq_plain; exact do_assign rfl; exact rfl
  apply seq_putC (hc := by assumption); rotate_left; exact do_store rfl rfl (by exact ext_get_new List.getElem?_concat_length) rfl rfl (nb_own _); rotate_left; exact (by simp)
  rw [set_mid rfl]
  have hL1 := getApp (m := [some (ABlk.cells (bk l[i]) 0 false false)]) hL
  have hx1 : (L ++ [some (ABlk.cells (bk l[i]) 0 false false)])[L.length]? = some (some (.cells (bk l[i]) 0 false false)) := List.getElem?_concat_length
  refine ct_to (l' := [(2, .slice (some ⟨b5, o5, none⟩) A.length e), (9, .slice (some ⟨nb H 0, 0, none⟩) t.length t.length), (10, I i), (11, .pointer (some ⟨nb H L.length, 0, none⟩)), (22, .slice (some ⟨b2, o2, none⟩) l.length d), (23, I l.length), (24, I i)]) (h' := ext H H.fresh (L ++ [some (.cells (bk l[i]) 0 false false)])) (by repeat (first | exact sub_nil | apply sub_cons rfl)) (.refl _) ?_
  obtain ⟨k, hkk⟩ : ∃ k, k = L.length := ⟨_, rfl⟩
  obtain ⟨L1, hL1e⟩ : ∃ L1, L1 = L ++ [some (ABlk.cells (bk l[i]) 0 false false)] := ⟨_, rfl⟩
  rw [← hL1e] at hL1 hx1 ⊢
  rw [← hkk] at hx1 ⊢
  have hlt0 : 0 < L1.length := (List.getElem?_eq_some_iff.1 hL1).1
  clear hL1e hkk hL
  rw [← ul]
  apply ct_draw (by assumption); decide +kernel
  iterate 3 (apply sd_plain (hfree := rfl); intro _; exact do_move rfl; exact rfl)
  apply sd_plain (hfree := rfl); intro _; exact do_indexAddrS rfl rfl rfl (by exact idx_nat (by omega)); exact rfl
  apply sd_look (hfree := rfl); exact do_load rfl (by exact ext_get_old (by assumption) (by assumption)) rfl (by exact pt_sl0 (by assumption) (by omega)); exact rfl
  apply sd_plain (hfree := rfl); intro _; exact do_indexAddrS rfl rfl rfl (by exact idx_int (by omega)); exact rfl
  apply sd_look (hfree := rfl); exact do_load rfl (by exact ext_get_new (getApp (by assumption))) rfl (by exact pt_map (by omega)); exact rfl
  apply sd_plain (hfree := rfl); intro _; exact do_fieldAddr rfl rfl; exact rfl
  apply sd_look (hfree := rfl); exact do_load rfl (by exact ext_get_new (getApp (by assumption))) rfl (by exact rfl); exact rfl
  apply sd_plain (hfree := rfl); intro _; exact do_fieldAddr rfl rfl; exact rfl
  apply sd_look (hfree := rfl); exact do_load rfl (by exact ext_get_new (getApp (by assumption))) rfl (by exact rfl); exact rfl
  apply sd_plain (hfree := rfl); intro _; exact do_sub rfl rfl (by omega); exact rfl
  apply sd_plain (hfree := rfl); intro _; exact do_add rfl rfl (by omega); exact rfl
  apply sd_plain (hfree := rfl); intro _; exact do_indexAddrS rfl rfl rfl (by exact idx_int (by omega)); exact rfl
  refine sd_putQ (k := 0) rfl (by decide +kernel) hc (by simpa using hlt0) (do_store rfl rfl (ext_get_new (by simpa using hL1)) rfl (stl_map (by omega) rfl rfl) (nb_own _)) (fun L3 l3 o3 k3 => ?_)
  apply sd_nil
  apply ct_region
  apply seq_plain; exact do_succ rfl (by omega); exact rfl
  apply seq_plain; exact do_move rfl; exact rfl
  apply seq_nil
  simp only [List.map_nil, List.append_nil]
  rw [ul]
  exact lt_to (by repeat (first | exact sub_nil | apply sub_cons rfl)) (.refl _) (ih' (i + 1) L3 (by omega) (by omega) (by rw [← us2]; exact k3))
 have v : i = l.length := by simp at v; omega
 subst v
 apply ct_exit
 apply exit_eq; exact rfl
 apply ct_seq
 apply ct_region
 apply seq_plain; exact do_move rfl; exact rfl
 iterate 2 (apply seq_plain; exact do_assign rfl; exact rfl)
 apply seq_nil
 apply ct_ret
 exact fin_one (k := 0) hc rfl hL (flat_ints _) (by simp [packA, renV, renL, renOf_one ⟨own_iff.1 (nb_own 0), nb_ge 0⟩]) ⟨rfl, rfl⟩
/-! ### when they are worn -/
def wornX (t : List Tb) (l : List Bk) (A : List Int) (lim : Int) : Int := firstL [casE t l A, whenL (outL lim 1 999999999) 3]
def wornO (t : List Tb) (l : List Bk) (A : List Int) (lim : Int) : List Int := if wornX t l A lim ≠ 0 then [] else wornV t l A lim
set_option maxHeartbeats 8000000 in
theorem Worn_c {H : AHeap} {q r w : Option Addr} {c d e : Nat} {t : List Tb} {l : List Bk} {A : List Int} {lim : Int} (hs : SlAt H 2 tb q t) (hlow : LowS q c t.length) (hn : t.length < 1000000) (hr : SlAt H 4 bk r l) (hlow2 : LowS r d l.length) (hm : l.length < 1000000) (hw : SlAt H 1 i1 w A) (hA : A.length < 1000000) (h12 : casE t l A = 0 → l.length ≤ 12) :
  Ret Tryz.prog 11 [.slice q t.length c, .slice r l.length d, .slice w A.length e, I lim] H (.tuple ⟨[lstV H.fresh (wornO t l A lim), I (wornX t l A lim)]⟩) (lstH H 1 i1 (wornO t l A lim)) := by
 refine fn_start Tryz.func11 rfl rfl rfl fun hc => ?_
 apply ct_seq
 apply ct_region
 iterate 2 (apply seq_plain; exact do_assign rfl; exact rfl)
 apply seq_nil
 iterate 2 (apply ct_seq)
 apply ct_region
 iterate 3 (apply seq_plain; exact do_move rfl; exact rfl)
 apply seq_call (ht := rfl); exact CheckAssign_c (hs.ext (ext_Ext hc)) hlow hn (hr.ext (ext_Ext hc)) hlow2 hm (hw.ext (ext_Ext hc)) hA; exact rfl
 apply seq_plain; exact do_move rfl; exact rfl
 apply seq_call (ht := rfl); exact within89; exact rfl
 apply seq_newS; exact do_buildSlice rfl rfl rfl rfl rfl rfl rfl; exact rfl
 apply seq_call (ht := rfl); exact first84 (l := [_, _]) (slAt_map (ext_get_new rfl)) (by simp); exact rfl
 apply seq_plain; exact do_assign rfl; exact rfl
 apply seq_nil
 apply ct_seq
 apply ct_region
 apply seq_plain; exact do_move rfl; exact rfl
 apply seq_plain; exact do_binInt rfl rfl rfl trivial; exact rfl
 apply seq_nil
 refine ct_cond rfl (fun u => ?_) (fun u => ?_)
 ·have u : wornX t l A lim ≠ 0 := by unfold wornX; simpa using u
  unfold wornO
  rw [if_pos u]
  apply ct_seq
  apply ct_region
  apply seq_plain; exact do_move rfl; exact rfl
  iterate 2 (apply seq_plain; exact do_assign rfl; exact rfl)
  apply seq_nil
  apply ct_ret
  exact fin_lst2 hc (lst := []) (f := i1) (m := 1) (k0 := 0) .nil rfl (fun _ => rfl) ⟨rfl, rfl⟩
 have u : wornX t l A lim = 0 := by unfold wornX; simpa using u
 have eO : wornO t l A lim = wornV t l A lim := if_neg (by rw [u]; simp)
 rw [u, eO]
 have u0 : casE t l A = 0 := firstL_allZ u _ (by simp)
 have u1 : outL lim 1 999999999 = false := whenL_z (firstL_allZ u (whenL (outL lim 1 999999999) 3) (by simp)) (by decide)
 simp only [outL, decide_eq_false_iff_not] at u1
 obtain ⟨hb, hAl, hk⟩ := casE_ok u0
 have hok := (both_ok hb).ok
 have hl12 := h12 u0
 clear h12 u u0 eO hk
 apply ct_skip
 apply ct_seq
 apply ct_region
 apply seq_plain; exact do_assign rfl; exact rfl
 apply seq_nil
 iterate 2 (apply ct_seq)
 apply ct_region
 apply seq_plain; exact do_move rfl; exact rfl
 apply seq_plain; exact do_lenS rfl rfl rfl; exact rfl
 apply seq_plain; exact do_move rfl; exact rfl
 apply seq_nil
 apply ct_block
 apply ct_loop
 refine lt_meas (α := Nat × Value × Nat × List (Option ABlk)) (fun a => [(1, .slice r l.length d), (2, .slice w A.length e), (3, I lim), (11, a.2.1), (28, I t.length), (29, I a.1)]) (fun a => ext H H.fresh a.2.2.2) (fun a => a.1 ≤ t.length ∧ LstI H a.2.2.2 1 i1 a.2.2.1 a.2.1 ((List.range a.1).map (wornK l A lim))) (fun a => t.length - a.1) (fun a ha ih => ?_) (0, .slice none 0 0, 0, _) ⟨Nat.zero_le _, .nil⟩ (by repeat (first | exact sub_nil | apply sub_cons rfl)) (.refl _)
 obtain ⟨n, v, K, L⟩ := a
 obtain ⟨hi, hv⟩ := ha
 simp only at hi hv ih ⊢
 have ih' := fun i' v' K' L' a1 a2 a3 => ih (i', v', K', L') a1 ⟨a2, a3⟩
 simp only at ih'
 clear ih
 obtain ⟨outs, hou⟩ : ∃ outs, outs = (List.range n).map (wornK l A lim) := ⟨_, rfl⟩
 have houl : outs.length = n := by rw [hou]; simp
 rw [← hou] at hv
 apply ct_seq
 apply ct_region
 apply seq_plain; exact do_binInt rfl rfl rfl trivial; exact rfl
 apply seq_nil
 apply ct_seq
 refine ct_cond rfl (fun g1 => ?_) (fun g1 => ?_)
 ·simp only [decide_eq_true_eq, Int.ofNat_lt] at g1
  apply ct_skip
  apply ct_seq
  apply ct_block
  apply ct_seq
  apply ct_region
  apply seq_plain; exact do_move rfl; exact rfl
  apply seq_plain; exact do_assign rfl; exact rfl
  apply seq_nil
  apply ct_seq
  apply ct_region
  apply seq_plain; exact do_assign rfl; exact rfl
  apply seq_nil
  iterate 2 (apply ct_seq)
  apply ct_region
  apply seq_plain; exact do_move rfl; exact rfl
  apply seq_plain; exact do_lenS rfl rfl rfl; exact rfl
  apply seq_plain; exact do_move rfl; exact rfl
  apply seq_nil
  apply ct_block
  apply ct_loop
  refine lt_meas (α := Nat × Value × Nat × List (Option ABlk)) (fun a => [(1, .slice r l.length d), (2, .slice w A.length e), (3, I lim), (11, v), (12, I n), (13, a.2.1), (28, I t.length), (29, I n), (32, .slice r l.length d), (33, I l.length), (34, I a.1)]) (fun a => ext H H.fresh a.2.2.2) (fun a => a.1 ≤ l.length ∧ LstI H a.2.2.2 4 bk a.2.2.1 a.2.1 (ownB l A n a.1) ∧ LstI H a.2.2.2 1 i1 K v outs ∧ (outs ≠ [] → ownB l A n a.1 ≠ [] → K ≠ a.2.2.1)) (fun a => l.length - a.1) (fun a ha ih2 => ?_) (0, .slice none 0 0, 0, L) ⟨Nat.zero_le _, .nil, hv, fun _ h => absurd rfl h⟩ (by repeat (first | exact sub_nil | apply sub_cons rfl)) (.refl _)
  clear hv L
  obtain ⟨j, v2, K2, L⟩ := a
  obtain ⟨hj, hv2, hv, hne⟩ := ha
  simp only at hj hv2 hv hne ih2 ⊢
  have ih2' := fun i' v' K' L' a1 a2 a3 a4 a5 => ih2 (i', v', K', L') a1 ⟨a2, a3, a4, a5⟩
  simp only at ih2'
  clear ih2
  have hol := ownB_len (l := l) (A := A) (n := n) j
  apply ct_seq
  apply ct_region
  apply seq_plain; exact do_binInt rfl rfl rfl trivial; exact rfl
  apply seq_nil
  apply ct_seq
  refine ct_cond rfl (fun g2 => ?_) (fun g2 => ?_)
  ·simp only [decide_eq_true_eq, Int.ofNat_lt] at g2
   have hjA : j < A.length := by omega
   have os := ownB_succ (A := A) (n := n) g2
   rw [List.getElem?_eq_getElem hjA] at os
   obtain ⟨b2, o2, cs2, z2, st2, ro2, rfl, hg2, hw2⟩ := hr.out (by intro e; rw [e] at g2; simp at g2)
   obtain ⟨b5, o5, cs5, z5, st5, ro5, rfl, hg5, hw5⟩ := hw.out (by intro e; rw [e] at hjA; simp at hjA)
   apply ct_skip
   apply ct_seq
   apply ct_block
   apply ct_seq
   apply ct_region
   apply seq_plain; exact do_move rfl; exact rfl
   apply seq_plain; exact do_indexAddrS rfl rfl rfl (by exact idx_nat (by omega)); exact rfl
   apply seq_plain; exact do_load rfl (by exact ext_get_old (by assumption) (by assumption)) rfl (by exact pt_sl (by assumption) (by omega)); exact rfl
   apply seq_newP; exact do_alloc rfl rfl; exact rfl
   apply seq_plain; exact do_assign rfl; exact rfl
   apply seq_putC (hc := by assumption); rotate_left; exact do_store rfl rfl (by exact ext_get_new List.getElem?_concat_length) rfl rfl (nb_own _); rotate_left; exact (by simp)
   apply ct_seq
   apply ct_region
   iterate 2 (apply seq_plain; exact do_move rfl; exact rfl)
   apply seq_plain; exact do_indexAddrS rfl rfl rfl (by exact idx_nat (by omega)); exact rfl
   apply seq_plain; exact do_load rfl (by exact ext_get_old (by assumption) (by assumption)) rfl (by exact pt_sl0 (by assumption) (by omega)); exact rfl
   apply seq_plain; exact do_move rfl; exact rfl
   apply seq_plain; exact do_binInt rfl rfl rfl trivial; exact rfl
   apply seq_nil
   rw [set_mid rfl]
   refine ct_JXE (α := Value × Nat × List (Option ABlk)) (ds := []) (fun a => [(1, .slice (some ⟨b2, o2, none⟩) l.length d), (2, .slice (some ⟨b5, o5, none⟩) A.length e), (3, I lim), (11, v), (12, I n), (13, a.1), (28, I t.length), (29, I n), (32, .slice (some ⟨b2, o2, none⟩) l.length d), (33, I l.length), (34, I j)]) (fun a => ext H H.fresh a.2.2) (fun a => LstI H a.2.2 4 bk a.2.1 a.1 (ownB l A n (j + 1)) ∧ LstI H a.2.2 1 i1 K v outs ∧ (outs ≠ [] → ownB l A n (j + 1) ≠ [] → K ≠ a.2.1)) ?_ (fun a ha => ?_)
   ·refine ct_cond rfl (fun y => ?_) (fun y => ?_)
    ·have y : (A[j] == (n : Int)) = true := y
     rw [if_pos (by rw [show A[j] = (n : Int) by simpa using y])] at os
     apply ct_region
     apply seq_plain; exact do_move rfl; exact rfl
     apply seq_plain; exact do_load rfl (by exact ext_get_new List.getElem?_concat_length) rfl (by exact rfl); exact rfl
     apply seq_newS; exact do_buildSlice rfl rfl rfl rfl rfl rfl rfl; exact rfl
     refine seq_growI (xs := [l[j]]) hc ((hv2.keeps (.app _)).keeps (.app _)) (fun _ => rfl) (fun _ => rfl) rfl rfl rfl rfl rfl rfl (ext_get_new List.getElem?_concat_length) rfl (by simp) ?_ (Nat.ne_of_beq_eq_false rfl) (Nat.ne_of_beq_eq_false rfl) rfl (fun v' L3 hv' hst3 hlen3 => ?_)
     ·exact Nat.le_trans (Nat.mul_le_mul_right _ (by simp only [List.length_cons, List.length_nil]; omega : _ ≤ 3000000000)) (Nat.le_of_ble_eq_true rfl)
     have hv3 : LstI H L3 1 i1 K v outs := ((hv.keeps (.app _)).keeps (.app _)).keep fun hn => hst3 K (by have := hv.lt hn; simp; omega) fun h => hne hn h
     rw [← os] at hv'
     obtain ⟨J, hJ, hv'⟩ : ∃ J, J = L.length + 2 ∧ LstI H L3 4 bk J v' (ownB l A n (j + 1)) := ⟨_, by simp, hv'⟩
     apply seq_plain; exact do_assign rfl; exact rfl
     apply seq_nil
     exact jx_of (v', J, L3) ⟨hv', hv3, fun hn _ => by show K ≠ J; have := hv.lt hn; omega⟩ (by repeat (first | exact sub_nil | apply sub_cons rfl)) rfl
    ·have y : (A[j] == (n : Int)) = false := y
     rw [if_neg (by intro e; rw [Option.some.inj e] at y; simp at y)] at os
     apply ct_skip
     refine jx_of (v2, K2, _) ⟨?_, hv.keeps (.app _), ?_⟩ (by repeat (first | exact sub_nil | apply sub_cons rfl)) rfl
     ·rw [os]; exact hv2.keeps (.app _)
     ·rw [os]; exact hne
   obtain ⟨v3, K3, L3⟩ := a
   obtain ⟨a1, a2, a3⟩ := ha
   simp only at a1 a2 a3 ⊢
   apply ct_region
   apply seq_plain; exact do_succ rfl (by omega); exact rfl
   apply seq_plain; exact do_move rfl; exact rfl
   apply seq_nil
   exact lt_sub (by repeat (first | exact sub_nil | apply sub_cons rfl)) (ih2' (j + 1) v3 K3 L3 (by omega) (by omega) a1 a2 a3)
  have g2 : j = l.length := by simp at g2; omega
  subst g2
  clear ih2' hj
  have hol12 : (ownB l A n l.length).length ≤ 12 := by omega
  have hin : ∀ x ∈ ownB l A n l.length, BkIn x := fun x hx => bkIn_of (hok x (ownB_mem _ x hx))
  have key : ∃ L', (∃ h', Ret Tryz.prog 41 [v2, I lim] (ext H H.fresh L) (I (wornK l A lim n)) h' ∧ HQ h' (ext H H.fresh L')) ∧ LstI H L' 1 i1 K v outs := by
   unfold wornK
   rcases hv2.out with ⟨e1, rfl⟩ | ⟨e1, rfl, hL⟩
   ·rw [e1]
    exact ⟨L, ⟨_, worn0_c, .refl _⟩, hv⟩
   ·have hlt := (List.getElem?_eq_some_iff.1 hL).1
    refine ⟨_, ⟨_, worn_c (nb_own K2) (by rw [ext_fresh]; simp only [nb]; omega) (ext_get_new hL) hol12 e1 hin (by omega) (by omega), ext_put hc hlt _⟩, hv.keep fun hn => ?_⟩
    rw [List.getElem?_set_ne (fun e => hne hn e1 e.symm)]
  obtain ⟨L', ⟨h', cW, hq'⟩, hv'⟩ := key
  clear hv hv2 hne
  apply ct_exit
  apply exit_eq; exact rfl
  apply ct_region
  iterate 3 (apply seq_plain; exact do_move rfl; exact rfl)
  refine seq_callH rfl cW hq' rfl ?_
  apply seq_newS; exact do_buildSlice rfl rfl rfl rfl rfl rfl rfl; exact rfl
  refine seq_growI (xs := [wornK l A lim n]) hc (hv'.keeps (.app _)) (fun _ => rfl) (fun _ => rfl) rfl rfl rfl rfl rfl rfl (ext_get_new List.getElem?_concat_length) rfl (by simp) ?_ (Nat.ne_of_beq_eq_false rfl) (Nat.ne_of_beq_eq_false rfl) rfl (fun v'' L3 hv'' hst3 hlen3 => ?_)
  ·exact Nat.le_trans (Nat.mul_le_mul_right _ (by simp only [List.length_cons, List.length_nil]; omega : _ ≤ 3000000000)) (Nat.le_of_ble_eq_true rfl)
  obtain ⟨J, hv''⟩ : ∃ J, LstI H L3 1 i1 J v'' (outs ++ [wornK l A lim n]) := ⟨_, hv''⟩
  apply seq_plain; exact do_assign rfl; exact rfl
  apply seq_nil
  apply ct_region
  apply seq_plain; exact do_succ rfl (by omega); exact rfl
  apply seq_plain; exact do_move rfl; exact rfl
  apply seq_nil
  refine lt_sub (by repeat (first | exact sub_nil | apply sub_cons rfl)) (ih' (n + 1) v'' J L3 (by omega) (by omega) ?_)
  rw [range_snoc, ← hou]; exact hv''
 have g1 : n = t.length := by simp at g1; omega
 subst g1
 apply ct_exit
 apply exit_eq; exact rfl
 apply ct_seq
 apply ct_region
 apply seq_plain; exact do_move rfl; exact rfl
 iterate 2 (apply seq_plain; exact do_assign rfl; exact rfl)
 apply seq_nil
 apply ct_ret
 refine fin_lst2 hc (hv.lst (Nat.zero_le _)) rfl (fun _ => rfl) ?_
 rw [hou]; exact ⟨rfl, rfl⟩
end Go.Proofs.YtmcecjplgalcgaaGreatDoor
