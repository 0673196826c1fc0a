/- Contracts: the program's check of a list of matches, and of a rule. -/
import Derived.Test.YtppflopinmkpgaaDoorTcC
import Derived.Test.YtppflopinmkpgaaDoorFnL
import Derived.Test.YtppflopinmkpgaaDoorSxM
noncomputable section
namespace Go.Proofs.YtppflopinmkpgaaDoor
open Go Go.Den
set_option maxRecDepth 100000

/-- the pairs of the matches seen -/
def seenK (l : List Ma) : List (Int × Int) := l.foldl (fun k m => addK k (dirM m)) []
theorem seenK_snoc {l : List Ma} {m : Ma} : seenK (l ++ [m]) = addK (seenK l) (dirM m) := by simp [seenK, List.foldl_append]
theorem seenK_fold {p : Int × Int} (l : List Ma) : ∀ k : List (Int × Int), p ∈ l.foldl (fun k m => addK k (dirM m)) k ↔ p ∈ k ∨ p ∈ l.map dirM := by
  induction l with
  | nil => intro k; simp
  | cons m r ih =>
    intro k
    rw [List.foldl_cons, ih, mem_addK, List.map_cons, List.mem_cons]
    constructor
    · rintro ((h | h) | h)
      · exact .inl h
      · exact .inr (.inl h)
      · exact .inr (.inr h)
    · rintro (h | h | h)
      · exact .inl (.inl h)
      · exact .inl (.inr h)
      · exact .inr h
theorem seenK_mem {l : List Ma} {p : Int × Int} : memK (seenK l) p = memK (l.map dirM) p := by
  rw [Bool.eq_iff_iff, memK_iff, memK_iff, seenK, seenK_fold]
  simp
set_option maxHeartbeats 2000000 in
theorem checkMatches82 {H : AHeap} {n : Int} {q : Option Addr} {c : Nat} {l : List Ma} (hs : SlAt H 5 mt q l) (hn : l.length < 1000000000000) (hG : H.get 1 = some (.cells cs0 0 false true)) :
    Ret Tryd.prog 20 [I n, .slice q l.length c] H (I (chkM n l)) H := by
  refine fn_start Tryd.func20 rfl rfl rfl fun hc => ?_
  apply ct_seq
  apply ct_region
  apply seq_plain; exact do_assign rfl; exact rfl
  apply seq_nil
  apply ct_seq
  apply ct_seq
  apply ct_region
  apply seq_plain; exact do_move rfl; exact rfl
  apply seq_call (ht := rfl); exact checkTeams145; exact rfl
  apply seq_plain; exact do_move rfl; exact rfl
  apply seq_plain; exact do_lenS rfl rfl rfl; exact rfl
  apply seq_plain; exact do_binInt rfl rfl rfl trivial; exact rfl
  apply seq_call (ht := rfl); exact when85; exact rfl
  apply seq_newS; exact do_buildSlice rfl rfl rfl rfl rfl rfl rfl; exact rfl
  apply seq_call (ht := rfl); exact first84 (l := [_, _]) (slAt_map (ext_get_new rfl)) (by simp); exact rfl
  apply seq_plain; exact do_assign rfl; exact rfl
  apply seq_nil
  apply ct_seq
  apply ct_region
  apply seq_plain; exact do_move rfl; exact rfl
  apply seq_plain; exact do_binInt rfl rfl rfl trivial; exact rfl
  apply seq_nil
  refine ct_cond rfl (fun hb => ?_) (fun hb => ?_)
  · have hb : topM n l ≠ 0 := by simpa [topM] using hb
    apply ct_seq
    apply ct_region
    apply seq_plain; exact do_move rfl; exact rfl
    apply seq_plain; exact do_assign rfl; exact rfl
    apply seq_nil
    apply ct_ret
    refine fin_flat hc rfl rfl ⟨?_, rfl⟩
    simp only [chkM]; rw [if_neg hb]; rfl
  have hb : topM n l = 0 := by simpa [topM] using hb
  apply ct_skip
  apply ct_seq
  apply ct_region
  apply seq_newM; exact do_makeMap0; exact rfl
  apply seq_plain; exact do_assign rfl; exact rfl
  apply seq_nil
  apply ct_seq
  apply ct_seq
  apply ct_region
  apply seq_plain; exact do_move rfl; exact rfl
  apply seq_plain; exact do_lenS rfl rfl rfl; exact rfl
  apply seq_plain; exact do_move rfl; exact rfl
  apply seq_nil
  apply ct_block
  apply ct_loop
  refine lt_meas (α := Nat × List (Option ABlk)) (fun a => [(0, I n), (6, .map (some (nb H 1))), (26, .slice q l.length c), (27, I l.length), (28, I a.1)]) (fun a => ext H H.fresh a.2) (fun a => (a.1 ≤ l.length ∧ ∀ j, j < a.1 → errG (mErr n) l j = 0) ∧ a.2[1]? = some (some (setM prV (seenK (l.take a.1))))) (fun a => l.length - a.1) (fun a ha ih => ?_) (0, [some (.cells [I (whenL (outL n 2 24) 3), I (whenL (decide ((l.length : Int) > 600)) 5)] 1 false false), some (setM prV [])]) ⟨⟨by simp, by simp⟩, rfl⟩ (by repeat (first | exact sub_nil | apply sub_cons rfl)) (.refl _)
  obtain ⟨i, L⟩ := a
  obtain ⟨⟨hi, hJ⟩, hL⟩ := ha
  simp only at hi hJ hL ih ⊢
  have ih' := fun i' R' a1 a2 a3 => ih (i', R') a1 ⟨a2, a3⟩
  simp only at ih'
  clear ih
  have hL2 : 1 < L.length := (List.getElem?_eq_some_iff.1 hL).1
  apply ct_seq
  apply ct_region
  apply seq_plain; exact do_binInt rfl rfl rfl trivial; exact rfl
  apply seq_nil
  apply ct_seq
  refine ct_cond rfl (fun h1 => ?_) (fun h1 => ?_)
  · simp only [decide_eq_true_eq, Int.ofNat_lt] at h1
    obtain ⟨b, o, cs, z, s, ro, rfl, hg, hw⟩ := hs.out (by intro e; rw [e] at h1; simp at h1)
    apply ct_skip
    apply ct_seq
    apply ct_block
    apply ct_seq
    apply ct_region
    apply seq_plain; exact do_indexAddrS rfl rfl rfl (by exact idx_nat (by omega)); exact rfl
    apply seq_plain; exact do_load rfl (by exact ext_get_old (by assumption) (by assumption)) rfl (by exact pt_sl (by assumption) (by omega)); exact rfl
    apply seq_newP; exact do_alloc rfl rfl; exact rfl
    apply seq_putC (hc := by assumption); rotate_left; exact do_store rfl rfl (by exact ext_get_new List.getElem?_concat_length) rfl rfl (nb_own _); rotate_left; exact (by simp)
    apply ct_seq
    apply ct_region
    apply seq_plain; exact do_fieldAddr rfl rfl; exact rfl
    apply seq_plain; exact do_load rfl (by exact ext_get_new getSetLast) rfl (by exact rfl); exact rfl
    apply seq_plain; exact do_fieldAddr rfl rfl; exact rfl
    apply seq_plain; exact do_load rfl (by exact ext_get_new getSetLast) rfl (by exact rfl); exact rfl
    apply seq_plain; exact do_build rfl rfl rfl rfl; exact rfl
    apply seq_newP; exact do_alloc rfl rfl; exact rfl
    apply seq_putC (hc := by assumption); rotate_left; exact do_store rfl rfl (by exact ext_get_new List.getElem?_concat_length) rfl rfl (nb_own _); rotate_left; exact (by simp)
    apply ct_seq
    apply ct_region
    rw [set_mid rfl, set_mid rfl]
    obtain ⟨y8, e8⟩ : ∃ y : ABlk, y = .cells [I l[i].home, I l[i].away, I l[i].fr, I l[i].ag, .string l[i].kind] 0 false false := ⟨_, rfl⟩
    obtain ⟨y9, e9⟩ : ∃ y : ABlk, y = .cells [I l[i].home, I l[i].away] 0 false false := ⟨_, rfl⟩
    have g8 : (L ++ [some y8] ++ [some y9])[L.length]? = some (some y8) := getApp List.getElem?_concat_length
    have g9 : (L ++ [some y8] ++ [some y9])[(L ++ [some y8]).length]? = some (some y9) := List.getElem?_concat_length
    have gL : (L ++ [some y8] ++ [some y9])[1]? = some (some (setM prV (seenK (l.take i)))) := getApp (getApp hL)
    rw [e8, e9] at g8 g9 gL
    apply seq_plain; exact do_load rfl (by exact ext_get_new (by assumption)) rfl (by exact rfl); exact rfl
    apply seq_call (ht := rfl); exact side161 (m := l[i]) (ext_Ext hc _ _ hG); exact rfl
    apply seq_plain; exact do_move rfl; exact rfl
    apply seq_plain; exact do_extract rfl rfl; exact rfl
    apply seq_plain; exact do_extract rfl rfl; exact rfl
    apply seq_plain; exact do_assign rfl; exact rfl
    apply seq_plain; exact do_assign rfl; exact rfl
    apply seq_nil
    apply ct_seq
    apply ct_region
    apply seq_plain; exact do_move rfl; exact rfl
    apply seq_plain; exact do_binInt rfl rfl rfl trivial; exact rfl
    apply seq_plain; exact do_move rfl; exact rfl
    refine seq_J [(0, I n), (6, .map (some (nb H 1))), (26, .slice (some ⟨b, o, none⟩) l.length c), (27, I l.length), (28, I i), (8, .pointer (some ⟨nb H L.length, 0, none⟩)), (9, .pointer (some ⟨nb H (L ++ [some (ABlk.cells [I l[i].home, I l[i].away, I l[i].fr, I l[i].ag, .string l[i].kind] 0 false false)]).length, 0, none⟩)), (11, .bool (isKind l[i].kind)), (12, .bool ((sideL l[i].kind != 0) && (l[i].fr != 0 || l[i].ag != 0)))] (ds := []) (h := ext H H.fresh (L ++ [some (ABlk.cells [I l[i].home, I l[i].away, I l[i].fr, I l[i].ag, .string l[i].kind] 0 false false)] ++ [some (ABlk.cells [I l[i].home, I l[i].away] 0 false false)])) ?_ ?_
    · refine seq_gsplit rfl rfl (fun u1 => ?_) (fun u1 => ?_)
      · have u1 : (sideL l[i].kind != 0) = true := u1
        rw [u1, Bool.true_and]
        apply seq_guard (hd := rfl) (hl := rfl); exact do_fieldAddr rfl rfl; exact rfl
        apply seq_guard (hd := rfl) (hl := rfl); exact do_load rfl (by exact ext_get_new (by assumption)) rfl (by exact rfl); exact rfl
        apply seq_guard (hd := rfl) (hl := rfl); exact do_binInt rfl rfl rfl trivial; exact rfl
        apply seq_guard (hd := rfl) (hl := rfl); exact do_move rfl; exact rfl
        refine seq_gsplit rfl rfl (fun u2 => ?_) (fun u2 => ?_)
        · have u2 : (l[i].fr != 0) = true := u2
          rw [u2, Bool.true_or]
          apply seq_passed (hd := rfl) (hl := rfl) (hb := rfl); exact rfl
          apply seq_passed (hd := rfl) (hl := rfl) (hb := rfl); exact rfl
          apply seq_passed (hd := rfl) (hl := rfl) (hb := rfl); exact rfl
          apply seq_guard (hd := rfl) (hl := rfl); exact do_pick_t rfl rfl; exact rfl
          apply seq_plain; exact do_pick_t rfl rfl; exact rfl
          apply seq_plain; exact do_assign rfl; exact rfl
          apply seq_nil
          exact jp_of (by repeat (first | exact sub_nil | apply sub_cons rfl))
        · have u2 : (l[i].fr != 0) = false := u2
          rw [u2, Bool.false_or]
          apply seq_guard (hd := rfl) (hl := rfl); exact do_fieldAddr rfl rfl; exact rfl
          apply seq_guard (hd := rfl) (hl := rfl); exact do_load rfl (by exact ext_get_new (by assumption)) rfl (by exact rfl); exact rfl
          apply seq_guard (hd := rfl) (hl := rfl); exact do_binInt rfl rfl rfl trivial; exact rfl
          apply seq_guard (hd := rfl) (hl := rfl); exact do_pick_f rfl rfl; exact rfl
          apply seq_plain; exact do_pick_t rfl rfl; exact rfl
          apply seq_plain; exact do_assign rfl; exact rfl
          apply seq_nil
          exact jp_of (by repeat (first | exact sub_nil | apply sub_cons rfl))
      · have u1 : (sideL l[i].kind != 0) = false := u1
        rw [u1, Bool.false_and]
        apply seq_passed (hd := rfl) (hl := rfl) (hb := rfl); exact rfl
        apply seq_passed (hd := rfl) (hl := rfl) (hb := rfl); exact rfl
        apply seq_passed (hd := rfl) (hl := rfl) (hb := rfl); exact rfl
        apply seq_passed (hd := rfl) (hl := rfl) (hb := rfl); exact rfl
        apply seq_passedU (hd := rfl) (hl := rfl); exact rfl
        apply seq_passedU (hd := rfl) (hl := rfl); exact rfl
        apply seq_passedU (hd := rfl) (hl := rfl); exact rfl
        apply seq_passed (hd := rfl) (hl := rfl) (hb := rfl); exact rfl
        apply seq_plain; exact do_pick_f rfl rfl; exact rfl
        apply seq_plain; exact do_assign rfl; exact rfl
        apply seq_nil
        exact jp_of (by repeat (first | exact sub_nil | apply sub_cons rfl))
    apply ct_seq
    apply ct_seq
    apply ct_draw (by assumption); decide +kernel
    apply sd_look (hfree := rfl); exact do_load rfl (by exact ext_get_new (getApp (by assumption))) rfl (by exact rfl); exact rfl
    apply sd_plain (hfree := rfl); intro _; exact do_move rfl; exact rfl
    apply sd_call (ht := rfl); exact check162; exact rfl
    apply sd_plain (hfree := rfl); intro _; exact do_move rfl; exact rfl
    apply sd_plain (hfree := rfl); intro _; exact do_unOp rfl rfl; exact rfl
    apply sd_call (ht := rfl); exact when85; exact rfl
    apply sd_plain (hfree := rfl); intro _; exact do_fieldAddr rfl rfl; exact rfl
    apply sd_look (hfree := rfl); exact do_load rfl (by exact ext_get_new (getApp (by assumption))) rfl (by exact rfl); exact rfl
    apply sd_call (ht := rfl); exact within89; exact rfl
    apply sd_plain (hfree := rfl); intro _; exact do_fieldAddr rfl rfl; exact rfl
    apply sd_look (hfree := rfl); exact do_load rfl (by exact ext_get_new (getApp (by assumption))) rfl (by exact rfl); exact rfl
    apply sd_call (ht := rfl); exact within89; exact rfl
    apply sd_plain (hfree := rfl); intro _; exact do_move rfl; exact rfl
    apply sd_call (ht := rfl); exact when85; exact rfl
    apply sd_plain (hfree := rfl); intro _; exact do_move rfl; exact rfl
    apply sd_look (hfree := rfl); exact do_load rfl (by exact ext_get_new (getApp (by assumption))) rfl (by exact rfl); exact rfl
    apply sd_look (hfree := rfl); exact do_setGet (ks := seenK (l.take i)) (a := (l[i].home, l[i].away)) (f := prV) rfl rfl (by exact ext_get_new (getApp gL)) rfl zeroBool keyPr; exact rfl
    rw [seenK_mem]
    apply sd_call (ht := rfl); exact when85; exact rfl
    apply sd_newS (hfree := rfl); exact do_buildSlice rfl rfl rfl rfl rfl rfl rfl; exact rfl
    apply sd_callM (ht := rfl) (hw := rfl); decide +kernel; exact first84 (l := [_, _, _, _, _, _]) (slAt_map (ext_get_new List.getElem?_concat_length)) (by simp); exact rfl
    apply sd_plain (hfree := rfl); intro _; exact do_assign rfl; exact rfl
    apply sd_nil
    apply ct_seq
    apply ct_region
    apply seq_plain; exact do_move rfl; exact rfl
    apply seq_plain; exact do_binInt rfl rfl rfl trivial; exact rfl
    apply seq_nil
    rw [show (l[i].home, l[i].away) = dirM l[i] from rfl, mErr_prog]
    refine ct_cond rfl (fun h2 => ?_) (fun h2 => ?_)
    · have h2 : errG (mErr n) l i ≠ 0 := by rw [errG_at h1]; simpa using h2
      apply ct_seq
      apply ct_region
      apply seq_plain; exact do_move rfl; exact rfl
      apply seq_plain; exact do_assign rfl; exact rfl
      apply seq_nil
      apply ct_ret
      refine fin_flat hc rfl rfl ⟨?_, rfl⟩
      simp only [chkM]; rw [if_pos hb, restG_at h1 hJ h2, errG_at h1]; rfl
    · have h2 : errG (mErr n) l i = 0 := by rw [errG_at h1]; simpa using h2
      apply ct_skip
      apply ct_region
      apply seq_plain; exact do_move rfl; exact rfl
      apply seq_plain; exact do_load rfl (by exact ext_get_new (getApp (by assumption))) rfl (by exact rfl); exact rfl
      apply seq_putC (hc := by assumption); rotate_left; exact do_setAdd (ks := seenK (l.take i)) (a := dirM l[i]) (f := prV) rfl rfl rfl (by exact ext_get_new (getApp gL)) rfl keyPr (nb_own _); rotate_left; exact (by simp)
      apply ct_region
      apply seq_plain; exact do_succ rfl (by omega); exact rfl
      apply seq_plain; exact do_move rfl; exact rfl
      apply seq_nil
      have e : seenK (l.take (i + 1)) = addK (seenK (l.take i)) (dirM l[i]) := by rw [take_snoc h1, seenK_snoc]
      refine lt_to (by repeat (first | exact sub_nil | apply sub_cons rfl)) (.refl _) (ih' (i + 1) _ (by omega) ⟨by omega, fun j hji => ?_⟩ ?_)
      · rcases Nat.lt_or_ge j i with h | h
        · exact hJ j h
        · have : j = i := by omega
          subst this; exact h2
      · rw [e]; exact List.getElem?_set_self (by simp)
  · have h1 : i = l.length := by simp at h1; omega
    subst h1
    apply ct_exit
    apply exit_eq; exact rfl
    apply ct_seq
    apply ct_region
    apply seq_plain; exact do_assign rfl; exact rfl
    apply seq_nil
    apply ct_ret
    refine fin_flat hc rfl rfl ⟨?_, rfl⟩
    simp only [chkM]; rw [if_pos hb, restG_none hJ]; rfl

theorem ruleFar_c {H : AHeap} {k : Int} : Ret Tryd.prog 58 [I k] H (.bool (outL k 0 99)) H := by
  refine fn_start Tryd.func58 rfl rfl rfl fun hc => ?_
  apply ct_seq
  apply ct_region
  apply seq_plain; exact do_assign rfl; exact rfl
  apply seq_nil
  apply ct_seq
  apply ct_region
  apply seq_plain; exact do_move rfl; exact rfl
  apply seq_call (ht := rfl); exact within89; exact rfl
  apply seq_plain; exact do_binInt rfl rfl rfl trivial; exact rfl
  apply seq_plain; exact do_assign rfl; exact rfl
  apply seq_nil
  apply ct_ret
  refine fin_flat hc rfl rfl ⟨?_, rfl⟩
  show Value.bool (whenL (outL k 0 99) 3 != 0) = _
  cases outL k 0 99 <;> rfl
theorem ruleE {r : Ru} {b : Bool} : firstL [whenL ([r.win, r.draw, r.loss, r.frames].any fun k => outL k 0 99) 3, whenL b 11] = if outL r.win 0 99 || (outL r.draw 0 99 || (outL r.loss 0 99 || outL r.frames 0 99)) then 3 else if b then 11 else 0 := by
  simp only [List.any_cons, List.any_nil, Bool.or_false]
  cases (outL r.win 0 99 || (outL r.draw 0 99 || (outL r.loss 0 99 || outL r.frames 0 99))) <;> cases b <;> rfl
theorem checkRule115 {H : AHeap} {r : Ru} : Ret Tryd.prog 21 [ruV r] H (I (ruleL r)) H := by
  refine fn_start Tryd.func21 rfl rfl rfl fun hc => ?_
  apply ct_seq
  apply ct_region
  apply seq_newP; exact do_box rfl rfl rfl; exact rfl
  apply seq_plain; exact do_assign rfl; exact rfl
  apply seq_nil
  apply ct_seq
  apply ct_region
  apply seq_plain; exact do_fieldAddr rfl rfl; exact rfl
  apply seq_plain; exact do_load rfl (by exact ext_get_new rfl) rfl (by exact rfl); exact rfl
  apply seq_plain; exact do_fieldAddr rfl rfl; exact rfl
  apply seq_plain; exact do_load rfl (by exact ext_get_new rfl) rfl (by exact rfl); exact rfl
  apply seq_plain; exact do_fieldAddr rfl rfl; exact rfl
  apply seq_plain; exact do_load rfl (by exact ext_get_new rfl) rfl (by exact rfl); exact rfl
  apply seq_plain; exact do_fieldAddr rfl rfl; exact rfl
  apply seq_plain; exact do_load rfl (by exact ext_get_new rfl) rfl (by exact rfl); exact rfl
  apply seq_newS; exact do_buildSlice rfl rfl rfl rfl rfl rfl rfl; exact rfl
  apply seq_call (ht := rfl); exact has106 (l := [r.win, r.draw, r.loss, r.frames]) (p := fun k => outL k 0 99) (slAt_map (ext_get_new rfl)) (by simp) fun x hx H' h' => ruleFar_c; exact rfl
  apply seq_plain; exact do_assign rfl; exact rfl
  apply seq_nil
  apply ct_seq
  apply ct_draw (by assumption); decide +kernel
  apply sd_plain (hfree := rfl); intro _; exact do_move rfl; exact rfl
  apply sd_call (ht := rfl); exact when85; exact rfl
  apply sd_plain (hfree := rfl); intro _; exact do_fieldAddr rfl rfl; exact rfl
  apply sd_look (hfree := rfl); exact do_load rfl (by exact ext_get_new rfl) rfl (by exact rfl); exact rfl
  apply sd_plain (hfree := rfl); intro _; exact do_fieldAddr rfl rfl; exact rfl
  apply sd_look (hfree := rfl); exact do_load rfl (by exact ext_get_new rfl) rfl (by exact rfl); exact rfl
  apply sd_plain (hfree := rfl); intro _; exact do_binInt rfl rfl rfl trivial; exact rfl
  apply sd_plain (hfree := rfl); intro _; exact do_move rfl; exact rfl
  refine sd_gsplit rfl rfl (fun u => ?_) (fun u => ?_)
  · have u' : decide (r.draw > r.win) = true := u
    rw [decide_eq_true_iff] at u'
    apply sd_passed (hg := rfl) (hl := rfl) (hb := rfl); exact rfl
    apply sd_passed (hg := rfl) (hl := rfl) (hb := rfl); exact rfl
    apply sd_passed (hg := rfl) (hl := rfl) (hb := rfl); exact rfl
    apply sd_passed (hg := rfl) (hl := rfl) (hb := rfl); exact rfl
    apply sd_passed (hg := rfl) (hl := rfl) (hb := rfl); exact rfl
    apply sd_plain (hfree := rfl); intro _; exact do_pick_t rfl rfl; exact rfl
    apply sd_call (ht := rfl); exact when85; exact rfl
    apply sd_newS (hfree := rfl); exact do_buildSlice rfl rfl rfl rfl rfl rfl rfl; exact rfl
    apply sd_callM (ht := rfl) (hw := rfl); decide +kernel; exact first84 (l := [_, _]) (slAt_map (ext_get_new rfl)) (by simp); exact rfl
    apply sd_plain (hfree := rfl); intro _; exact do_assign rfl; exact rfl
    apply sd_nil
    apply ct_ret
    refine fin_flat hc rfl rfl ⟨?_, rfl⟩
    show I (firstL [whenL ([r.win, r.draw, r.loss, r.frames].any fun k => outL k 0 99) 3, whenL true 11]) = _
    rw [ruleE]
    unfold ruleL
    rw [if_pos (.inl u' : r.draw > r.win ∨ r.loss > r.draw), if_pos rfl]
  · have u' : decide (r.draw > r.win) = false := u
    rw [decide_eq_false_iff_not] at u'
    apply sd_guard (hfree := rfl) (hg := rfl) (hl := rfl); intro _; exact do_fieldAddr rfl rfl; exact rfl
    apply sd_guardL (hfree := rfl) (hg := rfl) (hl := rfl); exact do_load rfl (by exact ext_get_new rfl) rfl (by exact rfl); exact rfl
    apply sd_guard (hfree := rfl) (hg := rfl) (hl := rfl); intro _; exact do_fieldAddr rfl rfl; exact rfl
    apply sd_guardL (hfree := rfl) (hg := rfl) (hl := rfl); exact do_load rfl (by exact ext_get_new rfl) rfl (by exact rfl); exact rfl
    apply sd_guard (hfree := rfl) (hg := rfl) (hl := rfl); intro _; exact do_binInt rfl rfl rfl trivial; exact rfl
    apply sd_plain (hfree := rfl); intro _; exact do_pick_f rfl rfl; exact rfl
    apply sd_call (ht := rfl); exact when85; exact rfl
    apply sd_newS (hfree := rfl); exact do_buildSlice rfl rfl rfl rfl rfl rfl rfl; exact rfl
    apply sd_callM (ht := rfl) (hw := rfl); decide +kernel; exact first84 (l := [_, _]) (slAt_map (ext_get_new rfl)) (by simp); exact rfl
    apply sd_plain (hfree := rfl); intro _; exact do_assign rfl; exact rfl
    apply sd_nil
    apply ct_ret
    refine fin_flat hc rfl rfl ⟨?_, rfl⟩
    show I (firstL [whenL ([r.win, r.draw, r.loss, r.frames].any fun k => outL k 0 99) 3, whenL (decide (r.loss > r.draw)) 11]) = _
    rw [ruleE]
    unfold ruleL
    have e : (if decide (r.loss > r.draw) = true then (11 : Int) else 0) = if r.draw > r.win ∨ r.loss > r.draw then 11 else 0 := by
      by_cases k : r.loss > r.draw
      · rw [if_pos (decide_eq_true k), if_pos (.inr k : r.draw > r.win ∨ r.loss > r.draw)]
      · rw [if_neg (by simpa using k), if_neg (fun h => h.elim u' k : ¬ (r.draw > r.win ∨ r.loss > r.draw))]
    rw [e]
end Go.Proofs.YtppflopinmkpgaaDoor
