/- Contracts: a queue that is examined. -/
import Derived.Test.YtfjihdlpohljbaaGreatHkC
import Derived.Test.YtfjihdlpohljbaaGreatSvL
import Derived.Test.YtfjihdlpohljbaaGreatOpnD
noncomputable section
namespace Go.Proofs.YtfjihdlpohljbaaGreat
open Go Go.Den
set_option maxRecDepth 100000
def lateB (pre : List Rq) (x : Rq) : Bool := pre.getLast?.elim false fun y => decide (x.arr < y.arr)
theorem lateB_last {pre : List Rq} {x : Rq} (h : 0 < pre.length) : lateB pre x = decide (x.arr < (pre[pre.length - 1]'(by omega)).arr) := by
  unfold lateB
  rw [List.getLast?_eq_getElem?, List.getElem?_eq_getElem (by omega)]; rfl
theorem lateB_at {r : List Rq} {i : Nat} (h : i < r.length) (h0 : 0 < i) : lateB (r.take i) r[i] = decide (r[i].arr < (r[i - 1]'(by omega)).arr) := by
  have hl : (r.take i).length = i := by rw [List.length_take]; omega
  rw [lateB_last (by omega)]
  congr 3
  rw [List.getElem_take]
  simp only [hl]
def queE (t : List Tb) (pre : List Rq) (x : Rq) : Int := firstL [nameE [x.name, x.kind], whenL ((cntK t x.kind : Int) == 0) 10, whenL (outL x.len 1 96) 3, whenL (outL x.arr 0 99999) 3, whenL (lateB pre x) 11]
def quesE (t : List Tb) (r : List Rq) : Int := if r.length > 256 then 5 else restG (queE t) r
theorem examRq_c {H : AHeap} {q : Option Addr} {c g : Nat} {caps : List Value} {l : List Rq} {most : Nat} {err : List Rq → Rq → Int} (hs : SlAt H 4 rq q l) (hlow : LowS q c l.length) (hn : l.length < 1000000000000)
    (hp : ∀ i (hi : i < l.length), ∀ H', Ext H H' → Ret Tryz.prog g (.agg ⟨rq l[i]⟩ :: .slice q i c :: caps) H' (I (err (l.take i) l[i])) H') :
    Ret Tryz.prog 88 [.slice q l.length c, I most, .func (.func g) #[] ⟨caps⟩] H (I (if l.length > most then 5 else restG err l)) H := by
  refine fn_start Tryz.func88 rfl rfl rfl fun hc => ?_
  apply ct_seq
  apply ct_region
  apply seq_plain; exact do_assign rfl; exact rfl
  apply seq_nil
  iterate 2 (apply ct_seq)
  apply ct_region
  apply seq_plain; exact do_move rfl; exact rfl
  apply seq_plain; exact do_lenS rfl rfl rfl; exact rfl
  apply seq_plain; exact do_move rfl; exact rfl
  apply seq_plain; exact do_binInt rfl rfl rfl trivial; exact rfl
  apply seq_nil
  refine ct_cond rfl (fun h0 => ?_) (fun h0 => ?_)
  · have h0 : l.length > most := by simp at h0; omega
    apply ct_seq
    apply ct_region
    apply seq_plain; exact do_assign rfl; exact rfl
    apply seq_nil
    apply ct_ret
    refine fin_flat hc rfl rfl ⟨?_, rfl⟩
    rw [if_pos h0]; rfl
  have h0 : ¬ l.length > most := by simp at h0; omega
  rw [if_neg h0]
  apply ct_skip
  iterate 2 (apply ct_seq)
  apply ct_region
  apply seq_plain; exact do_move rfl; exact rfl
  apply seq_plain; exact do_lenS rfl rfl rfl; exact rfl
  apply seq_plain; exact do_move rfl; exact rfl
  apply seq_nil
  apply ct_block
  apply ct_loop
  refine lt_meas (α := Nat × List (Option ABlk)) (fun a => [(0, .slice q l.length c), (2, .func (.func g) #[] ⟨caps⟩), (14, .slice q l.length c), (15, I l.length), (16, I a.1)]) (fun a => ext H H.fresh a.2) (fun a => a.1 ≤ l.length ∧ ∀ j, j < a.1 → errG err l j = 0) (fun a => l.length - a.1) (fun a ha ih => ?_) (0, []) ⟨by simp, fun j hj => by simp at hj⟩ (by repeat (first | exact sub_nil | apply sub_cons rfl)) (.refl _)
  obtain ⟨i, L⟩ := a
  obtain ⟨hi, hJ⟩ := ha
  simp only at hi hJ ih ⊢
  have ih' := fun i' L' a1 a2 a3 => ih (i', L') a1 ⟨a2, a3⟩
  simp only at ih'
  clear ih
  apply ct_seq
  apply ct_region
  apply seq_plain; exact do_binInt rfl rfl rfl trivial; exact rfl
  apply seq_nil
  apply ct_seq
  refine ct_cond rfl (fun h1 => ?_) (fun h1 => ?_)
  · simp only [decide_eq_true_eq, Int.ofNat_lt] at h1
    obtain ⟨b, o, cs, z, s, ro, rfl, hg, hw⟩ := hs.out (by intro e; rw [e] at h1; simp at h1)
    have hcap := hlow.cap
    apply ct_skip
    apply ct_seq
    apply ct_block
    apply ct_seq
    apply ct_region
    apply seq_plain; exact do_move rfl; exact rfl
    apply seq_plain; exact do_indexAddrS rfl rfl rfl (by exact idx_nat (by omega)); exact rfl
    apply seq_plain; exact do_load rfl (by exact ext_get_old (by assumption) (by assumption)) rfl (by exact pt_sl (by assumption) (by omega)); exact rfl
    apply seq_newP; exact do_alloc rfl rfl; exact rfl
    apply seq_plain; exact do_assign rfl; exact rfl
    apply seq_putC (hc := by assumption); rotate_left; exact do_store rfl rfl (by exact ext_get_new List.getElem?_concat_length) rfl rfl (nb_own _); rotate_left; exact (by simp)
    apply ct_seq
    apply ct_draw (by assumption); decide +kernel
    apply sd_plain (hfree := rfl); intro _; exact do_move rfl; exact rfl
    apply sd_look (hfree := rfl); exact do_load rfl (by exact ext_get_new (getApp getSetLast)) rfl (by exact rfl); exact rfl
    iterate 2 (apply sd_plain (hfree := rfl); intro _; exact do_move rfl; exact rfl)
    apply sd_look (hfree := rfl); exact do_sliceTo rfl rfl rfl (by intro e; cases e) (by rintro _ ⟨⟩; rfl) (by omega); exact rfl
    skip
    apply sd_call (ht := rfl); exact hp i h1 _ (ext_Ext hc); exact rfl
    apply sd_plain (hfree := rfl); intro _; exact do_assign rfl; exact rfl
    apply sd_nil
    apply ct_seq
    apply ct_region
    apply seq_plain; exact do_move rfl; exact rfl
    apply seq_plain; exact do_binInt rfl rfl rfl trivial; exact rfl
    apply seq_nil
    refine ct_cond rfl (fun h2 => ?_) (fun h2 => ?_)
    · have h2 : err (l.take i) l[i] ≠ 0 := by simpa using h2
      apply ct_seq
      apply ct_region
      apply seq_plain; exact do_move rfl; exact rfl
      apply seq_plain; exact do_assign rfl; exact rfl
      apply seq_nil
      apply ct_ret
      refine fin_flat hc rfl rfl ⟨?_, rfl⟩
      rw [restG_at h1 hJ (by rw [errG_at h1]; exact h2), errG_at h1]; rfl
    · have h2 : err (l.take i) l[i] = 0 := by simpa using h2
      apply ct_skip
      apply ct_region
      apply seq_plain; exact do_succ rfl (by omega); exact rfl
      apply seq_plain; exact do_move rfl; exact rfl
      apply seq_nil
      refine lt_to (by repeat (first | exact sub_nil | apply sub_cons rfl)) (.refl _) (ih' (i + 1) _ (by omega) (by omega) fun j hj => ?_)
      rcases Nat.lt_or_ge j i with h | h
      · exact hJ j h
      · obtain rfl : j = i := by omega
        rw [errG_at h1]; exact h2
  · have h1 : i = l.length := by simp at h1; omega
    subst h1
    apply ct_exit
    apply exit_eq; exact rfl
    apply ct_seq
    apply ct_region
    apply seq_plain; exact do_assign rfl; exact rfl
    apply seq_nil
    apply ct_ret
    refine fin_flat hc rfl rfl ⟨?_, rfl⟩
    rw [restG_none hJ]; rfl
theorem queue1_c {H : AHeap} {q p : Option Addr} {c d b z : Nat} {s ro : Bool} {t : List Tb} {pre : List Rq} {x : Rq} (hs : SlAt H 2 tb q t) (hn : t.length < 1000000000000) (hp : SlAt H 4 rq p pre) (hm : pre.length < 1000000000000) (hg : H.get b = some (.cells [.slice q t.length c] z s ro)) :
    Ret Tryz.prog 89 [.agg ⟨rq x⟩, .slice p pre.length d, .pointer (some ⟨b, 0, none⟩)] H (I (queE t pre x)) H := by
  refine fn_start Tryz.func89 rfl rfl rfl fun hc => ?_
  apply ct_seq
  apply ct_region
  apply seq_newP; exact do_box rfl rfl rfl; exact rfl
  apply seq_plain; exact do_assign rfl; exact rfl
  apply seq_nil
  apply ct_seq
  apply ct_draw (by assumption); decide +kernel
  apply sd_plain (hfree := rfl); intro _; exact do_move rfl; exact rfl
  apply sd_look (hfree := rfl); exact do_lenS rfl rfl rfl; exact rfl
  apply sd_plain (hfree := rfl); intro _; exact do_binInt rfl rfl rfl trivial; exact rfl
  apply sd_plain (hfree := rfl); intro _; exact do_move rfl; exact rfl
  refine sd_J [(2, .pointer (some ⟨b, 0, none⟩)), (3, .pointer (some ⟨nb H 0, 0, none⟩)), (6, .bool (lateB pre x))] (ds := []) (h := ext H H.fresh [some (.cells (rq x) 0 false false)]) ?_ ?_
  · refine sd_gsplit rfl rfl (fun u => ?_) (fun u => ?_)
    · have u : 0 < pre.length := by
        have u : decide ((pre.length : Int) > 0) = true := u
        simp only [decide_eq_true_eq] at u; omega
      obtain ⟨b2, o2, cs2, z2, s2, ro2, rfl, hg2, hw2⟩ := hp.out (by intro e; rw [e] at u; simp at u)
      have hl : pre.length - 1 < pre.length := by omega
      rw [lateB_last u]
      apply sd_guard (hfree := rfl) (hg := rfl) (hl := rfl); intro _; exact do_fieldAddr rfl rfl; exact rfl
      apply sd_guardL (hfree := rfl) (hg := rfl) (hl := rfl); exact do_load rfl (by exact ext_get_new rfl) rfl (by exact rfl); exact rfl
      iterate 2 (apply sd_guard (hfree := rfl) (hg := rfl) (hl := rfl); intro _; exact do_move rfl; exact rfl)
      apply sd_guardL (hfree := rfl) (hg := rfl) (hl := rfl); exact do_lenS rfl rfl rfl; exact rfl
      apply sd_guard (hfree := rfl) (hg := rfl) (hl := rfl); intro _; exact do_predN rfl rfl (by omega) (by omega); exact rfl
      apply sd_guard (hfree := rfl) (hg := rfl) (hl := rfl); intro _; exact do_indexAddrS rfl rfl rfl (by exact idx_nat (by omega)); exact rfl
      apply sd_guard (hfree := rfl) (hg := rfl) (hl := rfl); intro _; exact do_fieldAddr rfl rfl; exact rfl
      apply sd_guardL (hfree := rfl) (hg := rfl) (hl := rfl); exact do_load rfl (by exact ext_get_old (by assumption) (by assumption)) rfl (by exact pt_sl1 (by assumption) (by omega) (Nat.le_of_ble_eq_true rfl) rfl); exact rfl
      apply sd_guard (hfree := rfl) (hg := rfl) (hl := rfl); intro _; exact do_binInt rfl rfl rfl trivial; exact rfl
      apply sd_plain (hfree := rfl); intro _; exact do_pick_t rfl rfl; exact rfl
      apply sd_plain (hfree := rfl); intro _; exact do_assign rfl; exact rfl
      apply sd_nil
      simp only [List.map_nil, List.append_nil]
      exact jp_of (by repeat (first | exact sub_nil | apply sub_cons rfl))
    · have u : pre.length = 0 := by
        have u : decide ((pre.length : Int) > 0) = false := u
        simp only [decide_eq_false_iff_not] at u; omega
      have e1 : lateB pre x = false := by rw [List.length_eq_zero_iff.1 u]; rfl
      rw [e1]
      iterate 10 (apply sd_passed (hg := rfl) (hl := rfl) (hb := rfl); exact rfl)
      apply sd_plain (hfree := rfl); intro _; exact do_pick_f rfl rfl; exact rfl
      apply sd_plain (hfree := rfl); intro _; exact do_assign rfl; exact rfl
      apply sd_nil
      simp only [List.map_nil, List.append_nil]
      exact jp_of (by repeat (first | exact sub_nil | apply sub_cons rfl))
  apply ct_seq
  apply ct_draw (by assumption); decide +kernel
  apply sd_plain (hfree := rfl); intro _; exact do_fieldAddr rfl rfl; exact rfl
  apply sd_look (hfree := rfl); exact do_load rfl (by exact ext_get_new rfl) rfl (by exact rfl); exact rfl
  apply sd_plain (hfree := rfl); intro _; exact do_fieldAddr rfl rfl; exact rfl
  apply sd_look (hfree := rfl); exact do_load rfl (by exact ext_get_new rfl) rfl (by exact rfl); exact rfl
  apply sd_newS (hfree := rfl); exact do_buildSlice rfl rfl rfl rfl rfl rfl rfl; exact rfl
  apply sd_callM (ht := rfl) (hw := rfl); decide +kernel; exact named_c (l := [_, _]) (slAt_map (ext_get_new rfl)) (by simp); exact rfl
  apply sd_look (hfree := rfl); exact do_load rfl (by exact ext_get_old (by assumption) (by assumption)) rfl (by exact rfl); exact rfl
  apply sd_plain (hfree := rfl); intro _; exact do_fieldAddr rfl rfl; exact rfl
  apply sd_look (hfree := rfl); exact do_load rfl (by exact ext_get_new rfl) rfl (by exact rfl); exact rfl
  apply sd_call (ht := rfl); exact count_c (hs.ext (ext_Ext hc)) (by omega); exact rfl
  apply sd_plain (hfree := rfl); intro _; exact do_binInt rfl rfl rfl trivial; exact rfl
  apply sd_call (ht := rfl); exact when85; exact rfl
  apply sd_plain (hfree := rfl); intro _; exact do_fieldAddr rfl rfl; exact rfl
  apply sd_look (hfree := rfl); exact do_load rfl (by exact ext_get_new rfl) rfl (by exact rfl); exact rfl
  apply sd_call (ht := rfl); exact within89; exact rfl
  apply sd_plain (hfree := rfl); intro _; exact do_fieldAddr rfl rfl; exact rfl
  apply sd_look (hfree := rfl); exact do_load rfl (by exact ext_get_new rfl) rfl (by exact rfl); exact rfl
  apply sd_call (ht := rfl); exact day_c; exact rfl
  apply sd_plain (hfree := rfl); intro _; exact do_move rfl; exact rfl
  apply sd_call (ht := rfl); exact when85; exact rfl
  apply sd_newS (hfree := rfl); exact do_buildSlice rfl rfl rfl rfl rfl rfl rfl; exact rfl
  apply sd_callM (ht := rfl) (hw := rfl); decide +kernel; exact first84 (l := [_, _, _, _, _]) (slAt_map (ext_get_new rfl)) (by simp); exact rfl
  apply sd_plain (hfree := rfl); intro _; exact do_assign rfl; exact rfl
  apply sd_nil
  apply ct_ret
  exact fin_flat hc rfl rfl ⟨rfl, rfl⟩
theorem checkQueue_c {H : AHeap} {q p : Option Addr} {c d : Nat} {t : List Tb} {r : List Rq} (hs : SlAt H 2 tb q t) (hn : t.length < 1000000000000) (hp : SlAt H 4 rq p r) (hlow : LowS p d r.length) (hm : r.length < 1000000000000) :
    Ret Tryz.prog 52 [.slice q t.length c, .slice p r.length d] H (I (quesE t r)) H := by
  refine fn_start Tryz.func52 rfl rfl rfl fun hc => ?_
  apply ct_seq
  apply ct_region
  apply seq_newP; exact do_box rfl rfl rfl; exact rfl
  apply seq_plain; exact do_assign rfl; exact rfl
  apply seq_nil
  apply ct_seq
  apply ct_region
  apply seq_plain; exact do_move rfl; exact rfl
  apply seq_plain; exact do_makeFunc rfl rfl; exact rfl
  have hq : ∀ i (hi : i < r.length), ∀ H', Ext (ext H H.fresh [some (.cells [.slice q t.length c] 0 false false)]) H' → Ret Tryz.prog 89 (.agg ⟨rq r[i]⟩ :: .slice p i d :: [.pointer (some ⟨nb H 0, 0, none⟩)]) H' (I (queE t (r.take i) r[i])) H' := fun i hi H' hE => by
    have := queue1_c (b := nb H 0) (c := c) (d := d) (x := r[i]) (hs.ext ((ext_Ext hc).trans hE)) hn ((hp.ext ((ext_Ext hc).trans hE)).take i) (by rw [List.length_take]; omega) (hE _ _ (ext_get_new rfl))
    rwa [List.length_take, Nat.min_eq_left (by omega)] at this
  apply seq_call (ht := rfl); exact examRq_c (most := 256) (err := queE t) (hp.ext (ext_Ext hc)) hlow hm hq; exact rfl
  apply seq_plain; exact do_assign rfl; exact rfl
  apply seq_nil
  apply ct_ret
  exact fin_flat hc rfl rfl ⟨rfl, rfl⟩
theorem queE_8 {t : List Tb} {p : List Rq} {x : Rq} (h : (!nameB x.name || !nameB x.kind) = true) : queE t p x = 8 := by unfold queE; rw [nameE_two, h]; simp [firstL, whenL]
theorem queE_10 {t : List Tb} {p : List Rq} {x : Rq} (h : (!nameB x.name || !nameB x.kind) = false) (h1 : ((cntK t x.kind : Int) == 0) = true) : queE t p x = 10 := by unfold queE; rw [nameE_two, h, h1]; simp [firstL, whenL]
theorem queE_3 {t : List Tb} {p : List Rq} {x : Rq} (h : (!nameB x.name || !nameB x.kind) = false) (h1 : ((cntK t x.kind : Int) == 0) = false) (h2 : (outL x.len 1 96 || outL x.arr 0 99999) = true) : queE t p x = 3 := by
  unfold queE
  rw [nameE_two, h, h1]
  cases e : outL x.len 1 96
  · rw [e] at h2
    have h3 : outL x.arr 0 99999 = true := by simpa using h2
    rw [h3]; simp [firstL, whenL]
  · simp [firstL, whenL]
theorem queE_11 {t : List Tb} {p : List Rq} {x : Rq} (h : (!nameB x.name || !nameB x.kind) = false) (h1 : ((cntK t x.kind : Int) == 0) = false) (h2 : (outL x.len 1 96 || outL x.arr 0 99999) = false) : queE t p x = whenL (lateB p x) 11 := by
  rw [Bool.or_eq_false_iff] at h2
  unfold queE
  rw [nameE_two, h, h1, h2.1, h2.2]
  cases lateB p x <;> simp [firstL, whenL]
set_option maxHeartbeats 8000000 in
theorem refQueue_c {H : AHeap} {q p : Option Addr} {c d : Nat} {t : List Tb} {r : List Rq} (hs : SlAt H 2 tb q t) (hn : t.length < 1000000000) (hp : SlAt H 4 rq p r) (hm : r.length < 1000000000) :
    Ret Tryz.prog 20 [.slice q t.length c, .slice p r.length d] H (I (quesE t r)) H := by
  refine fn_start Tryz.func20 rfl rfl rfl fun hc => ?_
  have hsE : ∀ lo L, SlAt (ext H lo L) 2 tb q t := fun lo L => hs.ext (ext_Ext hc)
  apply ct_seq
  apply ct_region
  apply seq_plain; exact do_assign rfl; exact rfl
  apply seq_nil
  iterate 2 (apply ct_seq)
  apply ct_region
  apply seq_plain; exact do_move rfl; exact rfl
  apply seq_plain; exact do_lenS rfl rfl rfl; exact rfl
  apply seq_plain; exact do_binInt rfl rfl rfl trivial; exact rfl
  apply seq_nil
  refine ct_cond rfl (fun h0 => ?_) (fun h0 => ?_)
  · have h0 : r.length > 256 := by simp at h0; omega
    apply ct_seq
    apply ct_region
    apply seq_plain; exact do_assign rfl; exact rfl
    apply seq_nil
    apply ct_ret
    refine fin_flat hc rfl rfl ⟨?_, rfl⟩
    unfold quesE
    rw [if_pos h0]; rfl
  have h0 : ¬ r.length > 256 := by simp at h0; omega
  apply ct_skip
  iterate 2 (apply ct_seq)
  apply ct_region
  apply seq_plain; exact do_assign rfl; exact rfl
  apply seq_nil
  apply ct_block
  apply ct_loop
  refine lt_up (fun i => [(0, .slice q t.length c), (1, .slice p r.length d), (5, I i)]) (fun i => ∀ j, j < i → errG (queE t) r j = 0) r.length (fun i hi hJ ih => ?_) 0 (by omega) (by intros; omega) (by repeat (first | exact sub_nil | apply sub_cons rfl))
  iterate 2 (apply ct_seq)
  apply ct_region
  iterate 2 (apply seq_plain; exact do_move rfl; exact rfl)
  apply seq_plain; exact do_lenS rfl rfl rfl; exact rfl
  apply seq_plain; exact do_binInt rfl rfl rfl trivial; exact rfl
  apply seq_nil
  refine ct_cond rfl (fun h1 => ?_) (fun h1 => ?_)
  · simp only [decide_eq_true_eq, Int.ofNat_lt] at h1
    obtain ⟨b, o, cs, z, s, ro, rfl, hg, hw⟩ := hp.out (by intro e; rw [e] at h1; simp at h1)
    have ee := errG_at (err := queE t) h1
    have bad : queE t (r.take i) r[i] ≠ 0 → quesE t r = queE t (r.take i) r[i] := fun hne => by
      unfold quesE
      rw [if_neg h0, restG_at h1 hJ (by rw [ee]; exact hne), ee]
    obtain ⟨Z, hZ⟩ : ∃ Z : Bool, Z = (!nameB r[i].name || !nameB r[i].kind) := ⟨_, rfl⟩
    obtain ⟨Y, hY⟩ : ∃ Y : Bool, Y = (outL r[i].len 1 96 || outL r[i].arr 0 99999) := ⟨_, rfl⟩
    obtain ⟨X, hX⟩ : ∃ X : Bool, X = lateB (r.take i) r[i] := ⟨_, rfl⟩
    apply ct_skip
    apply ct_seq
    apply ct_block
    iterate 2 (apply ct_seq)
    apply ct_region
    iterate 2 (apply seq_plain; exact do_move rfl; exact rfl)
    apply seq_plain; exact do_indexAddrS rfl rfl rfl (by exact idx_nat (by omega)); exact rfl
    apply seq_plain; exact do_fieldAddr rfl rfl; exact rfl
    apply seq_plain; exact do_load rfl (by exact ext_get_old (by assumption) (by assumption)) rfl (by exact pt_sl1 (by assumption) (by omega) (Nat.le_of_ble_eq_true rfl) rfl); exact rfl
    apply seq_call (ht := rfl); exact refIsName_c; exact rfl
    apply seq_plain; exact do_unOp rfl rfl; exact rfl
    apply seq_plain; exact do_move rfl; exact rfl
    refine seq_J [(0, .slice q t.length c), (1, .slice (some ⟨b, o, none⟩) r.length d), (5, I i), (30, .bool Z)] (ds := []) (h := ext H H.fresh []) ?_ ?_
    · refine seq_gsplit rfl rfl (fun u => ?_) (fun u => ?_)
      · have u : (!nameB r[i].name) = true := u
        have e : Z = true := by rw [hZ, u]; rfl
        rw [e]
        iterate 7 (apply seq_passed (hd := rfl) (hl := rfl) (hb := rfl); exact rfl)
        apply seq_plain; exact do_pick_t rfl rfl; exact rfl
        apply seq_nil
        exact jp_of (by repeat (first | exact sub_nil | apply sub_cons rfl))
      · have u : (!nameB r[i].name) = false := u
        have e : Z = !nameB r[i].kind := by rw [hZ, u]; rfl
        rw [e]
        iterate 2 (apply seq_guard (hd := rfl) (hl := rfl); exact do_move rfl; exact rfl)
        apply seq_guard (hd := rfl) (hl := rfl); exact do_indexAddrS rfl rfl rfl (by exact idx_nat (by omega)); exact rfl
        apply seq_guard (hd := rfl) (hl := rfl); exact do_fieldAddr rfl rfl; exact rfl
        apply seq_guard (hd := rfl) (hl := rfl); exact do_load rfl (by exact ext_get_old (by assumption) (by assumption)) rfl (by exact pt_sl1 (by assumption) (by omega) (Nat.le_of_ble_eq_true rfl) rfl); exact rfl
        apply seq_gcall (hg := rfl) (hl := rfl) (ht := rfl); exact refIsName_c; exact rfl
        apply seq_guard (hd := rfl) (hl := rfl); exact do_unOp rfl rfl; exact rfl
        apply seq_plain; exact do_pick_f rfl rfl; exact rfl
        apply seq_nil
        exact jp_of (by repeat (first | exact sub_nil | apply sub_cons rfl))
    refine ct_cond rfl (fun h2 => ?_) (fun h2 => ?_)
    · have er : queE t (r.take i) r[i] = 8 := queE_8 (by rw [← hZ]; exact h2)
      apply ct_seq
      apply ct_region
      apply seq_plain; exact do_assign rfl; exact rfl
      apply seq_nil
      apply ct_ret
      refine fin_flat hc rfl rfl ⟨?_, rfl⟩
      rw [bad (by rw [er]; decide), er]; rfl
    rw [h2] at hZ
    apply ct_skip
    iterate 2 (apply ct_seq)
    apply ct_region
    iterate 3 (apply seq_plain; exact do_move rfl; exact rfl)
    apply seq_plain; exact do_indexAddrS rfl rfl rfl (by exact idx_nat (by omega)); exact rfl
    apply seq_plain; exact do_fieldAddr rfl rfl; exact rfl
    apply seq_plain; exact do_load rfl (by exact ext_get_old (by assumption) (by assumption)) rfl (by exact pt_sl1 (by assumption) (by omega) (Nat.le_of_ble_eq_true rfl) rfl); exact rfl
    apply seq_call (ht := rfl); exact refTables1_c (hsE _ _) hn; exact rfl
    apply seq_plain; exact do_binInt rfl rfl rfl trivial; exact rfl
    apply seq_nil
    refine ct_cond rfl (fun h3 => ?_) (fun h3 => ?_)
    · have h3 : ((cntK t r[i].kind : Int) == 0) = true := h3
      have er : queE t (r.take i) r[i] = 10 := queE_10 hZ.symm h3
      apply ct_seq
      apply ct_region
      apply seq_plain; exact do_assign rfl; exact rfl
      apply seq_nil
      apply ct_ret
      refine fin_flat hc rfl rfl ⟨?_, rfl⟩
      rw [bad (by rw [er]; decide), er]; rfl
    have h3 : ((cntK t r[i].kind : Int) == 0) = false := h3
    apply ct_skip
    iterate 2 (apply ct_seq)
    apply ct_region
    iterate 2 (apply seq_plain; exact do_move rfl; exact rfl)
    apply seq_plain; exact do_indexAddrS rfl rfl rfl (by exact idx_nat (by omega)); exact rfl
    apply seq_plain; exact do_fieldAddr rfl rfl; exact rfl
    apply seq_plain; exact do_load rfl (by exact ext_get_old (by assumption) (by assumption)) rfl (by exact pt_sl1 (by assumption) (by omega) (Nat.le_of_ble_eq_true rfl) rfl); exact rfl
    apply seq_call (ht := rfl); exact outside24; exact rfl
    apply seq_plain; exact do_move rfl; exact rfl
    refine seq_J [(0, .slice q t.length c), (1, .slice (some ⟨b, o, none⟩) r.length d), (5, I i), (52, .bool Y)] (ds := []) (h := ext H H.fresh []) ?_ ?_
    · refine seq_gsplit rfl rfl (fun u => ?_) (fun u => ?_)
      · have u : outL r[i].len 1 96 = true := u
        have e : Y = true := by rw [hY, u]; rfl
        rw [e]
        iterate 6 (apply seq_passed (hd := rfl) (hl := rfl) (hb := rfl); exact rfl)
        apply seq_plain; exact do_pick_t rfl rfl; exact rfl
        apply seq_nil
        exact jp_of (by repeat (first | exact sub_nil | apply sub_cons rfl))
      · have u : outL r[i].len 1 96 = false := u
        have e : Y = outL r[i].arr 0 99999 := by rw [hY, u]; rfl
        rw [e]
        iterate 2 (apply seq_guard (hd := rfl) (hl := rfl); exact do_move rfl; exact rfl)
        apply seq_guard (hd := rfl) (hl := rfl); exact do_indexAddrS rfl rfl rfl (by exact idx_nat (by omega)); exact rfl
        apply seq_guard (hd := rfl) (hl := rfl); exact do_fieldAddr rfl rfl; exact rfl
        apply seq_guard (hd := rfl) (hl := rfl); exact do_load rfl (by exact ext_get_old (by assumption) (by assumption)) rfl (by exact pt_sl1 (by assumption) (by omega) (Nat.le_of_ble_eq_true rfl) rfl); exact rfl
        apply seq_gcall (hg := rfl) (hl := rfl) (ht := rfl); exact outside24; exact rfl
        apply seq_plain; exact do_pick_f rfl rfl; exact rfl
        apply seq_nil
        exact jp_of (by repeat (first | exact sub_nil | apply sub_cons rfl))
    refine ct_cond rfl (fun h4 => ?_) (fun h4 => ?_)
    · have er : queE t (r.take i) r[i] = 3 := queE_3 hZ.symm h3 (by rw [← hY]; exact h4)
      apply ct_seq
      apply ct_region
      apply seq_plain; exact do_assign rfl; exact rfl
      apply seq_nil
      apply ct_ret
      refine fin_flat hc rfl rfl ⟨?_, rfl⟩
      rw [bad (by rw [er]; decide), er]; rfl
    rw [h4] at hY
    have er := queE_11 (p := r.take i) hZ.symm h3 hY.symm
    rw [← hX] at er
    apply ct_skip
    apply ct_seq
    apply ct_draw (by assumption); decide +kernel
    apply sd_plain (hfree := rfl); intro _; exact do_move rfl; exact rfl
    apply sd_plain (hfree := rfl); intro _; exact do_binInt rfl rfl rfl trivial; exact rfl
    apply sd_plain (hfree := rfl); intro _; exact do_move rfl; exact rfl
    refine sd_J [(0, .slice q t.length c), (1, .slice (some ⟨b, o, none⟩) r.length d), (5, I i), (68, .bool X)] (ds := []) (h := ext H H.fresh []) ?_ ?_
    · refine sd_gsplit rfl rfl (fun u => ?_) (fun u => ?_)
      · have u : 0 < i := by
          have u : decide ((i : Int) > 0) = true := u
          simp only [decide_eq_true_eq] at u; omega
        rw [hX, lateB_at h1 u]
        have hl : i - 1 < r.length := by omega
        iterate 2 (apply sd_guard (hfree := rfl) (hg := rfl) (hl := rfl); intro _; exact do_move rfl; exact rfl)
        apply sd_guard (hfree := rfl) (hg := rfl) (hl := rfl); intro _; exact do_indexAddrS rfl rfl rfl (by exact idx_nat (by omega)); exact rfl
        apply sd_guard (hfree := rfl) (hg := rfl) (hl := rfl); intro _; exact do_fieldAddr rfl rfl; exact rfl
        apply sd_guardL (hfree := rfl) (hg := rfl) (hl := rfl); exact do_load rfl (by exact ext_get_old (by assumption) (by assumption)) rfl (by exact pt_sl1 (by assumption) (by omega) (Nat.le_of_ble_eq_true rfl) rfl); exact rfl
        iterate 2 (apply sd_guard (hfree := rfl) (hg := rfl) (hl := rfl); intro _; exact do_move rfl; exact rfl)
        apply sd_guard (hfree := rfl) (hg := rfl) (hl := rfl); intro _; exact do_predN rfl rfl (by omega) (by omega); exact rfl
        apply sd_guard (hfree := rfl) (hg := rfl) (hl := rfl); intro _; exact do_indexAddrS rfl rfl rfl (by exact idx_nat (by omega)); exact rfl
        apply sd_guard (hfree := rfl) (hg := rfl) (hl := rfl); intro _; exact do_fieldAddr rfl rfl; exact rfl
        apply sd_guardL (hfree := rfl) (hg := rfl) (hl := rfl); exact do_load rfl (by exact ext_get_old (by assumption) (by assumption)) rfl (by exact pt_sl1 (by assumption) (by omega) (Nat.le_of_ble_eq_true rfl) rfl); exact rfl
        apply sd_guard (hfree := rfl) (hg := rfl) (hl := rfl); intro _; exact do_binInt rfl rfl rfl trivial; exact rfl
        apply sd_plain (hfree := rfl); intro _; exact do_pick_t rfl rfl; exact rfl
        apply sd_nil
        simp only [List.map_nil, List.append_nil]
        exact jp_of (by repeat (first | exact sub_nil | apply sub_cons rfl))
      · have u : i = 0 := by
          have u : decide ((i : Int) > 0) = false := u
          simp only [decide_eq_false_iff_not] at u; omega
        have e : X = false := by rw [hX]; simp [u, lateB]
        rw [e]
        iterate 12 (apply sd_passed (hg := rfl) (hl := rfl) (hb := rfl); exact rfl)
        apply sd_plain (hfree := rfl); intro _; exact do_pick_f rfl rfl; exact rfl
        apply sd_nil
        simp only [List.map_nil, List.append_nil]
        exact jp_of (by repeat (first | exact sub_nil | apply sub_cons rfl))
    refine ct_cond rfl (fun h5 => ?_) (fun h5 => ?_)
    · have h5 : X = true := h5
      rw [h5] at er
      have er : queE t (r.take i) r[i] = 11 := er
      apply ct_seq
      apply ct_region
      apply seq_plain; exact do_assign rfl; exact rfl
      apply seq_nil
      apply ct_ret
      refine fin_flat hc rfl rfl ⟨?_, rfl⟩
      rw [bad (by rw [er]; decide), er]; rfl
    have h5 : X = false := h5
    rw [h5] at er
    have er : queE t (r.take i) r[i] = 0 := er
    apply ct_skip
    apply ct_region
    apply seq_plain; exact do_move rfl; exact rfl
    apply seq_plain; exact do_succ rfl (by omega); exact rfl
    apply seq_plain; exact do_assign rfl; exact rfl
    apply seq_nil
    refine lt_to (by repeat (first | exact sub_nil | apply sub_cons rfl)) (.refl _) (ih (i + 1) (by omega) (by omega) fun j hj => ?_)
    rcases Nat.lt_or_ge j i with h | h
    · exact hJ j h
    · obtain rfl : j = i := by omega
      rw [ee]; exact er
  have h1 : i = r.length := by simp at h1; omega
  subst h1
  apply ct_exit
  apply exit_eq; exact rfl
  apply ct_seq
  apply ct_region
  apply seq_plain; exact do_assign rfl; exact rfl
  apply seq_nil
  apply ct_ret
  refine fin_flat hc rfl rfl ⟨?_, rfl⟩
  unfold quesE
  rw [if_neg h0, restG_none hJ]; rfl
end Go.Proofs.YtfjihdlpohljbaaGreat
