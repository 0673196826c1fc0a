/- Contracts: bookings are sorted by insertion (at most 12). -/
import Derived.Test.YtmcecjplgalcgaaGreatDoorAsC
import Derived.Test.YtmcecjplgalcgaaGreatDoorBgB
import Derived.Test.YtmcecjplgalcgaaGreatDoorHkC
import Derived.Test.YtmcecjplgalcgaaGreatDoorPrL
noncomputable section
namespace Go.Proofs.YtmcecjplgalcgaaGreatDoor
open Go Go.Den
set_option maxRecDepth 100000
theorem do_predB {P : Program} {l : EL} {h : AHeap} {x : Operand} {t t' : TypeId} {i : Nat} (hx : ev l x = some (.int .i64 ((i + 1 : Nat) : Int))) (hr : i < 9223372036854775807) : Does P l (.binOp .sub t x (.const (.int .i64 1)) t') h (.int .i64 (i : Int)) h := by
 have := do_sub (P := P) (l := l) (h := h) (t := t) (t' := t') (y := .const (.int .i64 1)) hx rfl (by omega)
 have e : ((i + 1 : Nat) : Int) - 1 = (i : Int) := by omega
 rw [e] at this
 exact this
abbrev bkB (T : List Bk) (z : Nat) (s : Bool) : ABlk := .cells (T.flatMap bk) z s false
theorem bkB_flat (T : List Bk) : (T.flatMap bk).all (flatD 8) = true := flat_all (fun _ => rfl) T
theorem swapB_mem {l : List Bk} {i j : Nat} (hi : i < l.length) (hj : j < l.length) {x : Bk} (h : x ∈ swapA l i j) : x ∈ l := by
 rw [swapA_eq hi hj] at h
 rcases List.mem_or_eq_of_mem_set h with h | rfl
 ·rcases List.mem_or_eq_of_mem_set h with h | rfl
  ·exact h
  ·exact List.getElem_mem _
 ·exact List.getElem_mem _
theorem downB_t {lt : Bk → Bk → Bool} {T : List Bk} {k : Nat} (h : k + 1 < T.length) (hl : lt T[k + 1] T[k] = true) : downA lt 0 T (k + 1) = downA lt 0 (swapA T (k + 1) k) k := by
 simp only [downA, List.getElem?_eq_getElem h, List.getElem?_eq_getElem (Nat.lt_of_succ_lt h)]
 rw [if_pos ⟨by omega, hl⟩]
theorem downB_f {lt : Bk → Bk → Bool} {T : List Bk} {k : Nat} (h : k + 1 < T.length) (hl : lt T[k + 1] T[k] = false) : downA lt 0 T (k + 1) = T := by
 simp only [downA, List.getElem?_eq_getElem h, List.getElem?_eq_getElem (Nat.lt_of_succ_lt h)]
 rw [if_neg (by rw [hl]; simp)]
set_option maxHeartbeats 8000000 in
theorem insertionB_c {H : AHeap} {T : List Bk} {b z c g : Nat} {s : Bool} {caps : List Value} {cm : Bk → Bk → Int} (hb : own b = true) (hlt : b < H.fresh) (hg : H.get b = some (bkB T z s)) (hn : T.length ≤ 1000000)
  (hcm : ∀ x ∈ T, ∀ y ∈ T, ∀ H', (∀ c v, c ≠ b → H.get c = some v → H'.get c = some v) → Ret Tryz.prog g (.agg ⟨bk x⟩ :: .agg ⟨bk y⟩ :: caps) H' (I (cm x y)) H') :
  Ret Tryz.prog 181 [.slice (some ⟨b, 0, none⟩) T.length c, I 0, I T.length, .func (.func g) #[] ⟨caps⟩] H (packA []) (H.put b (bkB (insA (fun x y => decide (cm x y < 0)) 0 T (T.length - 1)) z s)) := by
 refine fn_start Tryz.func181 rfl rfl rfl fun hc => ?_
 apply ct_seq
 apply ct_region
 apply seq_plain; exact do_move rfl; exact rfl
 apply seq_plain; exact do_add rfl rfl (by omega); exact rfl
 apply seq_plain; exact do_assign rfl; exact rfl
 apply seq_nil
 apply ct_block
 apply ct_loop
 refine lt_meas (α := Nat × List Bk × AHeap × Nat) (fun a => [(0, .slice (some ⟨b, 0, none⟩) T.length c), (1, I 0), (2, I T.length), (3, .func (.func g) #[] ⟨caps⟩), (8, I ((a.1 + 1 : Nat) : Int))]) (fun a => ext a.2.2.1 a.2.2.2 [])
  (fun a => (a.1 = 0 ∨ a.1 + 1 ≤ T.length) ∧ a.2.1 = insA (fun x y => decide (cm x y < 0)) 0 T a.1 ∧ (∀ x ∈ a.2.1, x ∈ T) ∧ Cg H a.2.2.1 b (bkB a.2.1 z s)) (fun a => T.length - a.1) (fun a ha ih => ?_) (0, T, H, H.fresh) ⟨.inl rfl, rfl, fun _ h => h, Cg.refl hc hg⟩ (by repeat (first | exact sub_nil | apply sub_cons rfl)) (.refl _)
 obtain ⟨i, T1, H1, lo1⟩ := a
 obtain ⟨hi, hT1, hm1, c1⟩ := ha
 simp only at hi hT1 hm1 c1 ih ⊢
 have ih' := fun i' T' H' lo' a1 a2 a3 a4 a5 => ih (i', T', H', lo') a1 ⟨a2, a3, a4, a5⟩
 simp only at ih'
 clear ih
 have hl1 : T1.length = T.length := by rw [hT1, insA_len]
 iterate 2 (apply ct_seq)
 apply ct_region
 iterate 2 (apply seq_plain; exact do_move rfl; exact rfl)
 apply seq_plain; exact do_binInt rfl rfl rfl trivial; exact rfl
 apply seq_nil
 refine ct_cond rfl (fun h1 => ?_) (fun h1 => ?_)
 ·have h1 : i + 1 < T.length := by simp at h1; omega
  apply ct_skip
  apply ct_seq
  apply ct_block
  apply ct_seq
  apply ct_region
  apply seq_plain; exact do_move rfl; exact rfl
  apply seq_plain; exact do_assign rfl; exact rfl
  apply seq_nil
  apply ct_block
  apply ct_loop
  refine lt_meas (α := Nat × List Bk × AHeap × Nat) (fun a => [(0, .slice (some ⟨b, 0, none⟩) T.length c), (1, I 0), (2, I T.length), (3, .func (.func g) #[] ⟨caps⟩), (8, I ((i + 1 : Nat) : Int)), (9, I a.1)]) (fun a => ext a.2.2.1 a.2.2.2 [])
   (fun a => a.1 ≤ i + 1 ∧ downA (fun x y => decide (cm x y < 0)) 0 a.2.1 a.1 = insA (fun x y => decide (cm x y < 0)) 0 T (i + 1) ∧ (∀ x ∈ a.2.1, x ∈ T) ∧ a.2.1.length = T.length ∧ Cg H a.2.2.1 b (bkB a.2.1 z s)) (fun a => a.1) (fun a ha ih2 => ?_) (i + 1, T1, H1, lo1) ⟨by simp, by simp only [insA, ← hT1]; simp, hm1, hl1, c1⟩ (by repeat (first | exact sub_nil | apply sub_cons rfl)) (.refl _)
  obtain ⟨j, T2, H2, lo2⟩ := a
  obtain ⟨hj, hT2, hm2, hl2, c2⟩ := ha
  simp only at hj hT2 hm2 hl2 c2 ih2 ⊢
  have ih2' := fun i' T' H' lo' a1 a2 a3 a4 a5 a6 => ih2 (i', T', H', lo') a1 ⟨a2, a3, a4, a5, a6⟩
  simp only at ih2'
  clear ih2
  have hc2 := c2.puts.closed
  have hg2 := c2.at_
  have hf2 : b < H2.fresh := by rw [c2.puts.fresh]; exact hlt
  iterate 2 (apply ct_seq)
  apply ct_draw (by assumption); decide +kernel
  iterate 2 (apply sd_plain (hfree := rfl); intro _; exact do_move rfl; exact rfl)
  apply sd_plain (hfree := rfl); intro _; exact do_binInt rfl rfl rfl trivial; exact rfl
  apply sd_plain (hfree := rfl); intro _; exact do_move rfl; exact rfl
  refine sd_gsplit rfl rfl (fun u => ?_) (fun u => ?_)
  ·have u : 0 < j := by simp at u; omega
   obtain ⟨k, rfl⟩ : ∃ k, j = k + 1 := ⟨j - 1, by omega⟩
   have hk1 : k + 1 < T2.length := by omega
   have hk0 : k < T2.length := by omega
   iterate 3 (apply sd_guard (hfree := rfl) (hg := rfl) (hl := rfl); intro _; exact do_move rfl; exact rfl)
   apply sd_guard (hfree := rfl) (hg := rfl) (hl := rfl); intro _; exact do_indexAddrS rfl rfl rfl (by exact idx_nat (by omega)); exact rfl
   apply sd_guardL (hfree := rfl) (hg := rfl) (hl := rfl); exact do_load rfl (by exact ext_get_old (by assumption) (by assumption)) rfl (by exact pt_flat bk_len (by omega)); exact rfl
   iterate 2 (apply sd_guard (hfree := rfl) (hg := rfl) (hl := rfl); intro _; exact do_move rfl; exact rfl)
   apply sd_guard (hfree := rfl) (hg := rfl) (hl := rfl); intro _; exact do_predB rfl (by omega); exact rfl
   apply sd_guard (hfree := rfl) (hg := rfl) (hl := rfl); intro _; exact do_indexAddrS rfl rfl rfl (by exact idx_nat (by omega)); exact rfl
   apply sd_guardL (hfree := rfl) (hg := rfl) (hl := rfl); exact do_load rfl (by exact ext_get_old (by assumption) (by assumption)) rfl (by exact pt_flat bk_len (by omega)); exact rfl
   apply sd_gcall (hg := rfl) (hl := rfl) (ht := rfl); exact hcm T2[k + 1] (hm2 _ (List.getElem_mem _)) T2[k] (hm2 _ (List.getElem_mem _)) _ (fun c v hne hv => ext_get_old hc2 (by rw [c2.off c hne]; exact hv)); exact rfl
   apply sd_guard (hfree := rfl) (hg := rfl) (hl := rfl); intro _; exact do_binInt rfl rfl rfl trivial; exact rfl
   apply sd_plain (hfree := rfl); intro _; exact do_pick_t rfl rfl; exact rfl
   apply sd_nil
   refine ct_cond rfl (fun h2 => ?_) (fun h2 => ?_)
   ·have h2 : decide (cm T2[k + 1] T2[k] < 0) = true := by simpa using h2
    apply ct_skip
    apply ct_seq
    apply ct_block
    apply ct_draw (by assumption); decide +kernel
    iterate 4 (apply sd_plain (hfree := rfl); intro _; exact do_move rfl; exact rfl)
    apply sd_plain (hfree := rfl); intro _; exact do_predB rfl (by omega); exact rfl
    iterate 2 (apply sd_plain (hfree := rfl); intro _; exact do_move rfl; exact rfl)
    apply sd_plain (hfree := rfl); intro _; exact do_predB rfl (by omega); exact rfl
    apply sd_plain (hfree := rfl); intro _; exact do_indexAddrS rfl rfl rfl (by exact idx_nat (by omega)); exact rfl
    apply sd_look (hfree := rfl); exact do_load rfl (by exact ext_get_old (by assumption) (by assumption)) rfl (by exact pt_flat bk_len (by omega)); exact rfl
    iterate 2 (apply sd_plain (hfree := rfl); intro _; exact do_move rfl; exact rfl)
    apply sd_plain (hfree := rfl); intro _; exact do_indexAddrS rfl rfl rfl (by exact idx_nat (by omega)); exact rfl
    apply sd_look (hfree := rfl); exact do_load rfl (by exact ext_get_old (by assumption) (by assumption)) rfl (by exact pt_flat bk_len (by omega)); exact rfl
    apply sd_plain (hfree := rfl); intro _; exact do_indexAddrS rfl rfl rfl (by exact idx_nat (by omega)); exact rfl
    refine sd_putO0 (b := b) (x := bkB (T2.set (k + 1) T2[k]) z s) rfl (by decide +kernel) hc2 hb hf2 (do_store rfl rfl (ext_get_old hc2 hg2) rfl (stl_elem bk_len (fun _ => rfl) hk1) hb) ?_
    have c3 := c2.put (z := z) (s := s) (ro := false) hb hlt (bkB_flat (T2.set (k + 1) T2[k]))
    have hc3 := c3.puts.closed
    have hf3 : b < (H2.put b (bkB (T2.set (k + 1) T2[k]) z s)).fresh := by rw [c3.puts.fresh]; exact hlt
    apply sd_plain (hfree := rfl); intro _; exact do_indexAddrS rfl rfl rfl (by exact idx_nat (by omega)); exact rfl
    refine sd_putO0 (b := b) (x := bkB ((T2.set (k + 1) T2[k]).set k T2[k + 1]) z s) rfl (by decide +kernel) hc3 hb hf3 (do_store rfl rfl (ext_get_old hc3 c3.at_) rfl (stl_elem bk_len (fun _ => rfl) (by simpa using hk0)) hb) ?_
    have c4 := c3.put (z := z) (s := s) (ro := false) hb hlt (bkB_flat ((T2.set (k + 1) T2[k]).set k T2[k + 1]))
    rw [← swapA_eq hk1 hk0] at c4 ⊢
    apply sd_nil
    apply ct_region
    apply seq_plain; exact do_move rfl; exact rfl
    apply seq_plain; exact do_predB rfl (by omega); exact rfl
    apply seq_plain; exact do_assign rfl; exact rfl
    apply seq_nil
    refine lt_to (by repeat (first | exact sub_nil | apply sub_cons rfl)) (.refl _) (ih2' k (swapA T2 (k + 1) k) _ _ (by omega) (by omega) ?_ (fun x hx => hm2 x (swapB_mem hk1 hk0 hx)) (by rw [swapA_len]; exact hl2) c4)
    rw [← downB_t hk1 h2]; exact hT2
   ·have h2 : decide (cm T2[k + 1] T2[k] < 0) = false := by simpa using h2
    rw [downB_f hk1 h2] at hT2
    apply ct_exit
    apply exit_eq; exact rfl
    apply ct_region
    apply seq_plain; exact do_move rfl; exact rfl
    apply seq_plain; exact do_succ rfl (by omega); exact rfl
    apply seq_plain; exact do_assign rfl; exact rfl
    apply seq_nil
    exact lt_to (by repeat (first | exact sub_nil | apply sub_cons rfl)) (.refl _) (ih' (i + 1) T2 H2 lo2 (by omega) (by omega) hT2 hm2 c2)
  ·have u : j = 0 := by simp at u; omega
   subst u
   iterate 12 (apply sd_passed (hg := rfl) (hl := rfl) (hb := rfl); exact rfl)
   apply sd_plain (hfree := rfl); intro _; exact do_pick_f rfl rfl; exact rfl
   apply sd_nil
   refine ct_cond_f rfl rfl ?_
   apply ct_exit
   apply exit_eq; exact rfl
   apply ct_region
   apply seq_plain; exact do_move rfl; exact rfl
   apply seq_plain; exact do_succ rfl (by omega); exact rfl
   apply seq_plain; exact do_assign rfl; exact rfl
   apply seq_nil
   exact lt_to (by repeat (first | exact sub_nil | apply sub_cons rfl)) (.refl _) (ih' (i + 1) T2 H2 lo2 (by omega) (by omega) hT2 hm2 c2)
 ·have h1 : i = T.length - 1 := by simp at h1; omega
  subst h1
  apply ct_exit
  apply exit_eq; exact rfl
  refine fin_cg hb hlt ⟨_, _, _, _, rfl, bkB_flat _⟩ c1 rfl rfl ?_
  rw [hT1]; exact ⟨rfl, rfl⟩
def mBl (n : Nat) : Memo := ⟨125, [.int .u64 n], [], I (if n = 0 then 0 else n.log2 + 1), []⟩
def runBl (n : Nat) : Bool := memoIs Tryz.prog (ctxOf Tryz.prog) [] [] 100000 (mBl n)
theorem runBl_all {n : Nat} (h : n ≤ 12) : runBl n = true := by
 have h2 : (List.range 13).all runBl = true := by kernel_rfl
 exact List.all_eq_true.1 h2 n (List.mem_range.2 (by omega))
theorem lies_nil {H : AHeap} : Lies H [] [] := ⟨rfl, fun i hi => by simp at hi, by simp, fun k y hy => by simp at hy⟩
theorem bitsLen_c {H : AHeap} {n : Nat} (h : n ≤ 12) : Ret Tryz.prog 125 [.int .u64 n] H (I (if n = 0 then 0 else n.log2 + 1)) H := by
 have hr := memo_one (P := Tryz.prog) blO_ok memo_nil (runBl_all h)
 refine ret_emb (τ := tauS []) (v0 := (mBl n).v) (zs := []) hr (emb_small (bOf_ok blO_ok) gloO lies_nil) ?_ rfl rfl fun c d hd => ?_
 ·simp [mBl, renL, renV]
 ·unfold tauN
  unfold tauS at hd
  split
  ·rename_i h1; unfold tauS; exact hd
  ·rename_i h1; rw [if_neg h1] at hd; simp at hd
set_option maxHeartbeats 4000000 in
theorem sortB_c {H : AHeap} {T : List Bk} {b z c g : Nat} {s : Bool} {caps : List Value} {cm : Bk → Bk → Int} (hb : own b = true) (hlt : b < H.fresh) (hg : H.get b = some (bkB T z s)) (hn : T.length ≤ 12)
  (hcm : ∀ x ∈ T, ∀ y ∈ T, ∀ H', (∀ c v, c ≠ b → H.get c = some v → H'.get c = some v) → Ret Tryz.prog g (.agg ⟨bk x⟩ :: .agg ⟨bk y⟩ :: caps) H' (I (cm x y)) H') {lm : Int} :
  Ret Tryz.prog 140 [.slice (some ⟨b, 0, none⟩) T.length c, I 0, I T.length, I lm, .func (.func g) #[] ⟨caps⟩] H (packA []) (H.put b (bkB (insA (fun x y => decide (cm x y < 0)) 0 T (T.length - 1)) z s)) := by
 refine fn_start Tryz.func140 rfl rfl rfl fun hc => ?_
 have e12 : decide ((T.length : Int) - 0 ≤ 12) = true := decide_eq_true (by omega)
 apply ct_seq
 apply ct_region
 apply seq_plain; exact do_assign rfl; exact rfl
 apply seq_nil
 apply ct_seq
 apply ct_region
 apply seq_plain; exact do_assign rfl; exact rfl
 apply seq_nil
 apply ct_block
 apply ct_loop
 apply lt_step
 apply ct_block
 apply ct_seq
 apply ct_region
 iterate 2 (apply seq_plain; exact do_move rfl; exact rfl)
 apply seq_plain; exact do_sub rfl rfl (by omega); exact rfl
 apply seq_plain; exact do_assign rfl; exact rfl
 apply seq_nil
 iterate 2 (apply ct_seq)
 apply ct_region
 apply seq_plain; exact do_move rfl; exact rfl
 apply seq_plain; exact do_binInt rfl rfl rfl trivial; exact rfl
 apply seq_nil
 refine ct_cond_t rfl (by simp; omega) ?_
 apply ct_seq
 apply ct_region
 iterate 4 (apply seq_plain; exact do_move rfl; exact rfl)
 refine seq_callPOC hc hb hlt rfl (insertionB_c (T := T) hb (by rw [ext_fresh]; exact Nat.lt_of_lt_of_le hlt (nb_ge _)) (ext_get_old hc hg) (by omega) fun x hx y hy H' h' => hcm x hx y hy H' fun c v hne hv => h' c v hne (ext_get_old hc hv)) rfl ?_
 have c1 := (Cg.refl hc hg).put (z := z) (s := s) (ro := false) hb hlt (bkB_flat (insA (fun x y => decide (cm x y < 0)) 0 T (T.length - 1)))
 apply ct_ret
 exact fin_cg hb hlt ⟨_, _, _, _, rfl, bkB_flat _⟩ c1 rfl rfl ⟨rfl, rfl⟩
set_option maxHeartbeats 4000000 in
theorem sortFuncB_c {H : AHeap} {T : List Bk} {b z c g : Nat} {s : Bool} {caps : List Value} {cm : Bk → Bk → Int} (hb : own b = true) (hlt : b < H.fresh) (hg : H.get b = some (bkB T z s)) (hn : T.length ≤ 12)
  (hcm : ∀ x ∈ T, ∀ y ∈ T, ∀ H', (∀ c v, c ≠ b → H.get c = some v → H'.get c = some v) → Ret Tryz.prog g (.agg ⟨bk x⟩ :: .agg ⟨bk y⟩ :: caps) H' (I (cm x y)) H') :
  Ret Tryz.prog 90 [.slice (some ⟨b, 0, none⟩) T.length c, .func (.func g) #[] ⟨caps⟩] H (packA []) (H.put b (bkB (insA (fun x y => decide (cm x y < 0)) 0 T (T.length - 1)) z s)) := by
 refine fn_start Tryz.func90 rfl rfl rfl fun hc => ?_
 have ew : IntKind.u64.wrap (T.length : Int) = (T.length : Int) := wrap_u64 (by omega)
 apply ct_seq
 apply ct_region
 apply seq_plain; exact do_move rfl; exact rfl
 apply seq_plain; exact do_lenS rfl rfl rfl; exact rfl
 apply seq_plain; exact do_assign rfl; exact rfl
 apply seq_nil
 apply ct_region
 iterate 3 (apply seq_plain; exact do_move rfl; exact rfl)
 apply seq_plain; exact do_convInt rfl rfl rfl; exact rfl
 rw [ew]
 apply seq_call (ht := rfl); exact bitsLen_c hn; exact rfl
 apply seq_plain; exact do_move rfl; exact rfl
 refine seq_call rfl (sortB_c (T := T) hb (by rw [ext_fresh]; exact Nat.lt_of_lt_of_le hlt (nb_ge _)) (ext_get_old hc hg) hn fun x hx y hy H' h' => hcm x hx y hy H' fun c v hne hv => h' c v hne (ext_get_old hc hv)) rfl ?_
 apply seq_nil
 exact fin_cgP hc hb hlt ⟨_, _, _, _, rfl, bkB_flat _⟩ ⟨_, hg⟩ rfl rfl ⟨rfl, rfl⟩
theorem sort0B_c {H : AHeap} {g : Nat} {caps : List Value} :
  Ret Tryz.prog 90 [.slice none 0 0, .func (.func g) #[] ⟨caps⟩] H (packA []) H := by
 have c3 : ∀ H, Ret Tryz.prog 181 [.slice none 0 0, I 0, I 0, .func (.func g) #[] ⟨caps⟩] H (packA []) H := fun H => by
  refine fn_start Tryz.func181 rfl rfl rfl fun hc => ?_
  apply ct_seq
  apply ct_region
  apply seq_plain; exact do_move rfl; exact rfl
  apply seq_plain; exact do_add rfl rfl (by omega); exact rfl
  apply seq_plain; exact do_assign rfl; exact rfl
  apply seq_nil
  apply ct_block
  apply ct_loop
  apply lt_step
  iterate 2 (apply ct_seq)
  apply ct_region
  iterate 2 (apply seq_plain; exact do_move rfl; exact rfl)
  apply seq_plain; exact do_binInt rfl rfl rfl trivial; exact rfl
  apply seq_nil
  refine ct_cond_f rfl rfl ?_
  apply ct_exit
  apply exit_eq; exact rfl
  exact fin_flat hc rfl rfl ⟨rfl, rfl⟩
 have c2 : ∀ H lm, Ret Tryz.prog 140 [.slice none 0 0, I 0, I 0, I lm, .func (.func g) #[] ⟨caps⟩] H (packA []) H := fun H lm => by
  refine fn_start Tryz.func140 rfl rfl rfl fun hc => ?_
  apply ct_seq
  apply ct_region
  apply seq_plain; exact do_assign rfl; exact rfl
  apply seq_nil
  apply ct_seq
  apply ct_region
  apply seq_plain; exact do_assign rfl; exact rfl
  apply seq_nil
  apply ct_block
  apply ct_loop
  apply lt_step
  apply ct_block
  apply ct_seq
  apply ct_region
  iterate 2 (apply seq_plain; exact do_move rfl; exact rfl)
  apply seq_plain; exact do_sub rfl rfl (by omega); exact rfl
  apply seq_plain; exact do_assign rfl; exact rfl
  apply seq_nil
  iterate 2 (apply ct_seq)
  apply ct_region
  apply seq_plain; exact do_move rfl; exact rfl
  apply seq_plain; exact do_binInt rfl rfl rfl trivial; exact rfl
  apply seq_nil
  refine ct_cond_t rfl rfl ?_
  apply ct_seq
  apply ct_region
  iterate 4 (apply seq_plain; exact do_move rfl; exact rfl)
  apply seq_call (ht := rfl); exact c3 _; exact rfl
  apply seq_nil
  apply ct_ret
  exact fin_flat hc rfl rfl ⟨rfl, rfl⟩
 refine fn_start Tryz.func90 rfl rfl rfl fun hc => ?_
 apply ct_seq
 apply ct_region
 apply seq_plain; exact do_move rfl; exact rfl
 apply seq_plain; exact do_lenS rfl rfl rfl; exact rfl
 apply seq_plain; exact do_assign rfl; exact rfl
 apply seq_nil
 apply ct_region
 iterate 3 (apply seq_plain; exact do_move rfl; exact rfl)
 apply seq_plain; exact do_convInt rfl rfl rfl; exact rfl
 apply seq_call (ht := rfl); exact bitsLen_c (n := 0) (by omega); exact rfl
 apply seq_plain; exact do_move rfl; exact rfl
 apply seq_call (ht := rfl); exact c2 _ _; exact rfl
 apply seq_nil
 exact fin_flat hc rfl rfl ⟨rfl, rfl⟩
end Go.Proofs.YtmcecjplgalcgaaGreatDoor
