/- HallUses: the part of the law that looks at the marks. -/
import Derived.Test.YtmcecjplgalcgaaGreatDoorUtA
import Derived.Test.YtmcecjplgalcgaaGreatDoorQaA
import Derived.Test.YtmcecjplgalcgaaGreatDoorQaS
import Derived.Test.YtmcecjplgalcgaaGreatDoorHaB
noncomputable section
namespace Go.Proofs.YtmcecjplgalcgaaGreatDoor
open Go Go.Den
set_option maxRecDepth 100000
noncomputable def sndC : Code → Code
 | .seq _ b => b
 | c => c
noncomputable def marksC : Code := sndC (sndC (sndC (sndC (sndC (sndC (sndC (sndC (sndC (sndC (Tryz.f3.body.getD .skip))))))))))
theorem tyPl : ∃ ti f0 f1, (ctxOf Tryz.prog).ty.get 51 = some ti ∧ ti.und = .struct #[f0, f1] ∧ (f0.name == "_") = false ∧ (f1.name == "_") = false ∧ f0.type = 49 ∧ f1.type = 49 ∧ f0.offset = 0 ∧ f1.offset = 1 :=
 ⟨_, _, _, ctx_ty rfl, rfl, rfl, rfl, rfl, rfl, rfl, rfl⟩
theorem tyRat : ∃ ti, (ctxOf Tryz.prog).ty.get 49 = some ti ∧ ti.und = .string ∧ ti.size = 1 ∧ isAggD ti.und = false := ⟨_, ctx_ty rfl, rfl, rfl, rfl⟩
theorem heldPl : Tryz.prog.stoodInHeld 51 = false := by decide +kernel
theorem guardPl : Tryz.prog.eqGuardType Tryz.prog.depth 51 = false := by decide +kernel
theorem eqVPl (a b : ByteArray) : eqV Tryz.prog (ctxOf Tryz.prog) 20 51 (.agg ⟨[.string a, .string b]⟩) (.agg ⟨[.string a, .string b]⟩) = some true := by
 obtain ⟨ti, f0, f1, h1, h2, n0, n1, t0, t1, o0, o1⟩ := tyPl
 obtain ⟨si, s1, s2, s3, s4⟩ := tyRat
 have two : ∀ a b : ByteArray, eqV Tryz.prog (ctxOf Tryz.prog) 19 49 (.string a) (.string b) = some (byteL a.data.toList b.data.toList) := by
  intro a b
  simp only [eqV, s1, s2]
 have p' : ∀ (xs : List Value) (k : Nat) (v : Value), xs[k]? = some v → partA si xs k = some v := by
  intro xs k v hv
  simp [partA, s4, hv]
 rw [eqV]
 simp only [h1, h2, heldPl, Bool.false_eq_true, if_false]
 simp only [eqFs, n0, n1, t0, t1, o0, o1, s1, Bool.false_eq_true, if_false]
 rw [p' _ 0 (.string a) rfl, p' _ 1 (.string b) rfl]
 have e : ∀ x : ByteArray, byteL x.data.toList x.data.toList = true := fun x => by rw [bytes_eq]; simp
 simp only [two, e]
theorem eqAPl (a b : ByteArray) : eqA Tryz.prog (ctxOf Tryz.prog) 51 (.agg ⟨[.string a, .string b]⟩) (.agg ⟨[.string a, .string b]⟩) = some true := by
 obtain ⟨ti, f0, f1, h1, h2, _⟩ := tyPl
 unfold eqA
 simp only [h1, h2, guardPl, eqVPl]
 simp [flatC]
theorem low_arr {b n : Nat} : LowS (some ⟨b, 0, none⟩) n n := ⟨Nat.le_refl _, (fun e => by cases e), (fun _ e => by cases e; rfl)⟩
set_option maxHeartbeats 16000000 in
theorem marks_w {H h : AHeap} {lo b0 b1 : Nat} {v0 v1 : Value} {lim : Int} {ma mb mc : Mk} {Qn : St → Prop} {Qe : Nat → St → Prop} (hc : Closed H) (hc' : Closed h) (hE : Ext H h) (hG : Glo B0 h) (hb0 : h.get b0 = some (.cells [v0, v1, I lim] 0 false false)) (hb1 : h.get b1 = some (.cells (m9 ma mb mc) 0 false false)) (l1 : 1 ≤ lim) (l2 : lim ≤ 999999999) :
  CT Tryz.prog none Tryz.f3.ntmps marksC ⟨ofA [(4, .pointer (some ⟨b0, 0, none⟩)), (5, .pointer (some ⟨b1, 0, none⟩)), (6, .bool false)], [], ext h lo []⟩ Qn Qe (Go.Den.Fin Tryz.prog Tryz.f3.results H (fun u k => u = .bool true ∧ k = H)) := by
 apply ct_seq
 apply ct_draw (by assumption); decide +kernel
 iterate 2 (apply sd_look (hfree := rfl); exact do_load rfl (by exact ext_get_old (by assumption) (by assumption)) rfl (by exact rfl); exact rfl)
 iterate 2 (apply sd_newP (hfree := rfl); exact do_alloc rfl rfl; exact rfl)
 refine sd_turn (k := 0) hc' rfl rfl rfl (by decide +kernel) (by decide +kernel) (do_store rfl rfl (ext_get_new rfl) rfl rfl (nb_own _)) ?_
 refine sd_put (k := 1) rfl (by decide +kernel) hc' (by simp) (do_store rfl rfl (ext_get_new rfl) rfl rfl (nb_own _)) ?_
 apply sd_nil
 refine ct_to (l' := [(4, .pointer (some ⟨b0, 0, none⟩)), (5, .pointer (some ⟨b1, 0, none⟩)), (6, .bool false), (22, .pointer (some ⟨nb h 0, 0, none⟩)), (23, .pointer (some ⟨nb h 1, 0, none⟩))]) (h' := ext h lo [some (.cells (m9 ma mb mc) 0 false false), some (.cells (m9 ma mb mc) 0 false false)]) (by repeat (first | exact sub_nil | apply sub_cons rfl)) (.refl _) ?_
 iterate 2 (apply ct_seq)
 apply ct_region
 apply seq_plain; exact do_move rfl; exact rfl
 apply seq_nil
 apply ct_block
 apply ct_loop
 refine lt_step ?_
 apply ct_seq
 apply ct_region
 apply seq_plain; exact do_binInt rfl rfl rfl trivial; exact rfl
 apply seq_nil
 apply ct_seq
 refine ct_cond_t rfl rfl ?_
 apply ct_skip
 apply ct_seq
 apply ct_block
 apply ct_seq
 apply ct_region
 apply seq_plain; exact do_move rfl; exact rfl
 apply seq_plain; exact do_assign rfl; exact rfl
 apply seq_nil
 iterate 2 (apply ct_seq)
 apply ct_region
 apply seq_plain; exact do_move rfl; exact rfl
 apply seq_plain; exact do_indexAddrA rfl rfl rfl (by exact rfl); exact rfl
 apply seq_plain; exact do_load rfl (by exact ext_get_old (by assumption) (by assumption)) rfl (by exact rfl); exact rfl
 apply seq_call (ht := rfl); exact refMark_c (m := ma); exact rfl
 apply seq_plain; exact do_binInt rfl rfl rfl trivial; exact rfl
 apply seq_plain; exact do_move rfl; exact rfl
 refine seq_gsplit rfl rfl (fun v1 => ?_) (fun v1 => ?_)
 ·apply seq_passed (hd := rfl) (hl := rfl) (hb := rfl); exact rfl
  iterate 4 (apply seq_passed (hd := rfl) (hl := rfl) (hb := rfl); exact rfl)
  apply seq_plain; exact do_pick_t rfl rfl; exact rfl
  apply seq_nil
  refine ct_cond_t rfl rfl ?_
  apply ct_seq
  apply ct_region
  apply seq_plain; exact do_assign rfl; exact rfl
  apply seq_nil
  apply ct_ret
  exact fin_flatB hc hc' hE rfl rfl ⟨rfl, rfl⟩
 have ga : GoodM ma := markE_good (by have v1 : (markE ma != 0) = false := v1; simpa using v1)
 have ga1 := ga.x1
 have ga2 := ga.x2
 have ga3 := ga.y1
 have ga4 := ga.y2
 have ga5 := ga.h1
 have ga6 := ga.h2
 apply seq_guard (hd := rfl) (hl := rfl); exact do_move rfl; exact rfl
 apply seq_guard (hd := rfl) (hl := rfl); exact do_indexAddrA rfl rfl rfl (by exact rfl); exact rfl
 apply seq_guard (hd := rfl) (hl := rfl); exact do_fieldAddr rfl rfl; exact rfl
 apply seq_guard (hd := rfl) (hl := rfl); exact do_load rfl (by exact ext_get_old (by assumption) (by assumption)) rfl (by exact rfl); exact rfl
 apply seq_guard (hd := rfl) (hl := rfl); exact do_binInt rfl rfl rfl trivial; exact rfl
 apply seq_plain; exact do_pick_f rfl rfl; exact rfl
 apply seq_nil
 refine ct_cond rfl (fun v2 => ?_) (fun v2 => ?_)
 ·apply ct_seq
  apply ct_region
  apply seq_plain; exact do_assign rfl; exact rfl
  apply seq_nil
  apply ct_ret
  exact fin_flatB hc hc' hE rfl rfl ⟨rfl, rfl⟩
 have ga7 : ma.h ≤ 1000000 := by simpa using v2
 apply ct_skip
 apply ct_seq
 apply ct_draw (by assumption); decide +kernel
 iterate 2 (apply sd_plain (hfree := rfl); intro _; exact do_move rfl; exact rfl)
 apply sd_plain (hfree := rfl); intro _; exact do_indexAddrA rfl rfl rfl (by exact rfl); exact rfl
 iterate 2 (apply sd_plain (hfree := rfl); intro _; exact do_fieldAddr rfl rfl; exact rfl)
 apply sd_look (hfree := rfl); exact do_load rfl (by exact ext_get_old (by assumption) (by assumption)) rfl (by exact rfl); exact rfl
 apply sd_plain (hfree := rfl); intro _; exact do_neg rfl (by omega); exact rfl
 apply sd_plain (hfree := rfl); intro _; exact do_move rfl; exact rfl
 apply sd_plain (hfree := rfl); intro _; exact do_indexAddrA rfl rfl rfl (by exact rfl); exact rfl
 iterate 2 (apply sd_plain (hfree := rfl); intro _; exact do_fieldAddr rfl rfl; exact rfl)
 apply sd_look (hfree := rfl); exact do_load rfl (by exact ext_get_old (by assumption) (by assumption)) rfl (by exact rfl); exact rfl
 apply sd_plain (hfree := rfl); intro _; exact do_neg rfl (by omega); exact rfl
 apply sd_plain (hfree := rfl); intro _; exact do_build rfl rfl rfl rfl; exact rfl
 apply sd_plain (hfree := rfl); intro _; exact do_indexAddrA rfl rfl rfl (by exact rfl); exact rfl
 apply sd_plain (hfree := rfl); intro _; exact do_fieldAddr rfl rfl; exact rfl
 refine sd_put0 (k := 0) rfl (by decide +kernel) hc' (by simp) (do_store rfl rfl (ext_get_new rfl) rfl rfl (nb_own _)) ?_
 apply sd_nil
 simp only [List.map_nil, List.append_nil]
 apply ct_region
 apply seq_plain; exact do_move rfl; exact rfl
 apply seq_plain; exact do_indexAddrA rfl rfl rfl (by exact rfl); exact rfl
 apply seq_plain; exact do_fieldAddr rfl rfl; exact rfl
 apply seq_plain; exact do_load rfl (by exact ext_get_new rfl) rfl (by exact rfl); exact rfl
 apply seq_plain; exact do_add rfl rfl (by omega); exact rfl
 apply seq_plain; exact do_indexAddrA rfl rfl rfl (by exact rfl); exact rfl
 apply seq_plain; exact do_fieldAddr rfl rfl; exact rfl
 apply seq_putC (hc := by assumption); rotate_left; exact do_store rfl rfl (by exact ext_get_new rfl) rfl rfl (nb_own _); rotate_left; exact Nat.le_of_ble_eq_true rfl
 apply ct_region
 apply seq_plain; exact do_add rfl rfl (by omega); exact rfl
 apply seq_plain; exact do_move rfl; exact rfl
 apply seq_nil
 refine lt_to (l' := [(4, .pointer (some ⟨b0, 0, none⟩)), (5, .pointer (some ⟨b1, 0, none⟩)), (6, .bool false), (22, .pointer (some ⟨nb h 0, 0, none⟩)), (23, .pointer (some ⟨nb h 1, 0, none⟩)), (240, I 1)]) (h' := ext h lo [some (.cells [I (-ma.x), I (-ma.y), I ma.h, I mb.x, I mb.y, I mb.h, I mc.x, I mc.y, I mc.h] 0 false false), some (.cells [I ma.x, I ma.y, I (ma.h + 77), I mb.x, I mb.y, I mb.h, I mc.x, I mc.y, I mc.h] 0 false false)]) (by repeat (first | exact sub_nil | apply sub_cons rfl)) (.refl _) ?_
 refine lt_step ?_
 apply ct_seq
 apply ct_region
 apply seq_plain; exact do_binInt rfl rfl rfl trivial; exact rfl
 apply seq_nil
 apply ct_seq
 refine ct_cond_t rfl rfl ?_
 apply ct_skip
 apply ct_seq
 apply ct_block
 apply ct_seq
 apply ct_region
 apply seq_plain; exact do_move rfl; exact rfl
 apply seq_plain; exact do_assign rfl; exact rfl
 apply seq_nil
 iterate 2 (apply ct_seq)
 apply ct_region
 apply seq_plain; exact do_move rfl; exact rfl
 apply seq_plain; exact do_indexAddrA rfl rfl rfl (by exact rfl); exact rfl
 apply seq_plain; exact do_load rfl (by exact ext_get_old (by assumption) (by assumption)) rfl (by exact rfl); exact rfl
 apply seq_call (ht := rfl); exact refMark_c (m := mb); exact rfl
 apply seq_plain; exact do_binInt rfl rfl rfl trivial; exact rfl
 apply seq_plain; exact do_move rfl; exact rfl
 refine seq_gsplit rfl rfl (fun v1 => ?_) (fun v1 => ?_)
 ·apply seq_passed (hd := rfl) (hl := rfl) (hb := rfl); exact rfl
  iterate 4 (apply seq_passed (hd := rfl) (hl := rfl) (hb := rfl); exact rfl)
  apply seq_plain; exact do_pick_t rfl rfl; exact rfl
  apply seq_nil
  refine ct_cond_t rfl rfl ?_
  apply ct_seq
  apply ct_region
  apply seq_plain; exact do_assign rfl; exact rfl
  apply seq_nil
  apply ct_ret
  exact fin_flatB hc hc' hE rfl rfl ⟨rfl, rfl⟩
 have gb : GoodM mb := markE_good (by have v1 : (markE mb != 0) = false := v1; simpa using v1)
 have gb1 := gb.x1
 have gb2 := gb.x2
 have gb3 := gb.y1
 have gb4 := gb.y2
 have gb5 := gb.h1
 have gb6 := gb.h2
 apply seq_guard (hd := rfl) (hl := rfl); exact do_move rfl; exact rfl
 apply seq_guard (hd := rfl) (hl := rfl); exact do_indexAddrA rfl rfl rfl (by exact rfl); exact rfl
 apply seq_guard (hd := rfl) (hl := rfl); exact do_fieldAddr rfl rfl; exact rfl
 apply seq_guard (hd := rfl) (hl := rfl); exact do_load rfl (by exact ext_get_old (by assumption) (by assumption)) rfl (by exact rfl); exact rfl
 apply seq_guard (hd := rfl) (hl := rfl); exact do_binInt rfl rfl rfl trivial; exact rfl
 apply seq_plain; exact do_pick_f rfl rfl; exact rfl
 apply seq_nil
 refine ct_cond rfl (fun v2 => ?_) (fun v2 => ?_)
 ·apply ct_seq
  apply ct_region
  apply seq_plain; exact do_assign rfl; exact rfl
  apply seq_nil
  apply ct_ret
  exact fin_flatB hc hc' hE rfl rfl ⟨rfl, rfl⟩
 have gb7 : mb.h ≤ 1000000 := by simpa using v2
 apply ct_skip
 apply ct_seq
 apply ct_draw (by assumption); decide +kernel
 iterate 2 (apply sd_plain (hfree := rfl); intro _; exact do_move rfl; exact rfl)
 apply sd_plain (hfree := rfl); intro _; exact do_indexAddrA rfl rfl rfl (by exact rfl); exact rfl
 iterate 2 (apply sd_plain (hfree := rfl); intro _; exact do_fieldAddr rfl rfl; exact rfl)
 apply sd_look (hfree := rfl); exact do_load rfl (by exact ext_get_old (by assumption) (by assumption)) rfl (by exact rfl); exact rfl
 apply sd_plain (hfree := rfl); intro _; exact do_neg rfl (by omega); exact rfl
 apply sd_plain (hfree := rfl); intro _; exact do_move rfl; exact rfl
 apply sd_plain (hfree := rfl); intro _; exact do_indexAddrA rfl rfl rfl (by exact rfl); exact rfl
 iterate 2 (apply sd_plain (hfree := rfl); intro _; exact do_fieldAddr rfl rfl; exact rfl)
 apply sd_look (hfree := rfl); exact do_load rfl (by exact ext_get_old (by assumption) (by assumption)) rfl (by exact rfl); exact rfl
 apply sd_plain (hfree := rfl); intro _; exact do_neg rfl (by omega); exact rfl
 apply sd_plain (hfree := rfl); intro _; exact do_build rfl rfl rfl rfl; exact rfl
 apply sd_plain (hfree := rfl); intro _; exact do_indexAddrA rfl rfl rfl (by exact rfl); exact rfl
 apply sd_plain (hfree := rfl); intro _; exact do_fieldAddr rfl rfl; exact rfl
 refine sd_put0 (k := 0) rfl (by decide +kernel) hc' (by simp) (do_store rfl rfl (ext_get_new rfl) rfl rfl (nb_own _)) ?_
 apply sd_nil
 simp only [List.map_nil, List.append_nil]
 apply ct_region
 apply seq_plain; exact do_move rfl; exact rfl
 apply seq_plain; exact do_indexAddrA rfl rfl rfl (by exact rfl); exact rfl
 apply seq_plain; exact do_fieldAddr rfl rfl; exact rfl
 apply seq_plain; exact do_load rfl (by exact ext_get_new rfl) rfl (by exact rfl); exact rfl
 apply seq_plain; exact do_add rfl rfl (by omega); exact rfl
 apply seq_plain; exact do_indexAddrA rfl rfl rfl (by exact rfl); exact rfl
 apply seq_plain; exact do_fieldAddr rfl rfl; exact rfl
 apply seq_putC (hc := by assumption); rotate_left; exact do_store rfl rfl (by exact ext_get_new rfl) rfl rfl (nb_own _); rotate_left; exact Nat.le_of_ble_eq_true rfl
 apply ct_region
 apply seq_plain; exact do_add rfl rfl (by omega); exact rfl
 apply seq_plain; exact do_move rfl; exact rfl
 apply seq_nil
 refine lt_to (l' := [(4, .pointer (some ⟨b0, 0, none⟩)), (5, .pointer (some ⟨b1, 0, none⟩)), (6, .bool false), (22, .pointer (some ⟨nb h 0, 0, none⟩)), (23, .pointer (some ⟨nb h 1, 0, none⟩)), (240, I 2)]) (h' := ext h lo [some (.cells [I (-ma.x), I (-ma.y), I ma.h, I (-mb.x), I (-mb.y), I mb.h, I mc.x, I mc.y, I mc.h] 0 false false), some (.cells [I ma.x, I ma.y, I (ma.h + 77), I mb.x, I mb.y, I (mb.h + 77), I mc.x, I mc.y, I mc.h] 0 false false)]) (by repeat (first | exact sub_nil | apply sub_cons rfl)) (.refl _) ?_
 refine lt_step ?_
 apply ct_seq
 apply ct_region
 apply seq_plain; exact do_binInt rfl rfl rfl trivial; exact rfl
 apply seq_nil
 apply ct_seq
 refine ct_cond_t rfl rfl ?_
 apply ct_skip
 apply ct_seq
 apply ct_block
 apply ct_seq
 apply ct_region
 apply seq_plain; exact do_move rfl; exact rfl
 apply seq_plain; exact do_assign rfl; exact rfl
 apply seq_nil
 iterate 2 (apply ct_seq)
 apply ct_region
 apply seq_plain; exact do_move rfl; exact rfl
 apply seq_plain; exact do_indexAddrA rfl rfl rfl (by exact rfl); exact rfl
 apply seq_plain; exact do_load rfl (by exact ext_get_old (by assumption) (by assumption)) rfl (by exact rfl); exact rfl
 apply seq_call (ht := rfl); exact refMark_c (m := mc); exact rfl
 apply seq_plain; exact do_binInt rfl rfl rfl trivial; exact rfl
 apply seq_plain; exact do_move rfl; exact rfl
 refine seq_gsplit rfl rfl (fun v1 => ?_) (fun v1 => ?_)
 ·apply seq_passed (hd := rfl) (hl := rfl) (hb := rfl); exact rfl
  iterate 4 (apply seq_passed (hd := rfl) (hl := rfl) (hb := rfl); exact rfl)
  apply seq_plain; exact do_pick_t rfl rfl; exact rfl
  apply seq_nil
  refine ct_cond_t rfl rfl ?_
  apply ct_seq
  apply ct_region
  apply seq_plain; exact do_assign rfl; exact rfl
  apply seq_nil
  apply ct_ret
  exact fin_flatB hc hc' hE rfl rfl ⟨rfl, rfl⟩
 have gc : GoodM mc := markE_good (by have v1 : (markE mc != 0) = false := v1; simpa using v1)
 have gc1 := gc.x1
 have gc2 := gc.x2
 have gc3 := gc.y1
 have gc4 := gc.y2
 have gc5 := gc.h1
 have gc6 := gc.h2
 apply seq_guard (hd := rfl) (hl := rfl); exact do_move rfl; exact rfl
 apply seq_guard (hd := rfl) (hl := rfl); exact do_indexAddrA rfl rfl rfl (by exact rfl); exact rfl
 apply seq_guard (hd := rfl) (hl := rfl); exact do_fieldAddr rfl rfl; exact rfl
 apply seq_guard (hd := rfl) (hl := rfl); exact do_load rfl (by exact ext_get_old (by assumption) (by assumption)) rfl (by exact rfl); exact rfl
 apply seq_guard (hd := rfl) (hl := rfl); exact do_binInt rfl rfl rfl trivial; exact rfl
 apply seq_plain; exact do_pick_f rfl rfl; exact rfl
 apply seq_nil
 refine ct_cond rfl (fun v2 => ?_) (fun v2 => ?_)
 ·apply ct_seq
  apply ct_region
  apply seq_plain; exact do_assign rfl; exact rfl
  apply seq_nil
  apply ct_ret
  exact fin_flatB hc hc' hE rfl rfl ⟨rfl, rfl⟩
 have gc7 : mc.h ≤ 1000000 := by simpa using v2
 apply ct_skip
 apply ct_seq
 apply ct_draw (by assumption); decide +kernel
 iterate 2 (apply sd_plain (hfree := rfl); intro _; exact do_move rfl; exact rfl)
 apply sd_plain (hfree := rfl); intro _; exact do_indexAddrA rfl rfl rfl (by exact rfl); exact rfl
 iterate 2 (apply sd_plain (hfree := rfl); intro _; exact do_fieldAddr rfl rfl; exact rfl)
 apply sd_look (hfree := rfl); exact do_load rfl (by exact ext_get_old (by assumption) (by assumption)) rfl (by exact rfl); exact rfl
 apply sd_plain (hfree := rfl); intro _; exact do_neg rfl (by omega); exact rfl
 apply sd_plain (hfree := rfl); intro _; exact do_move rfl; exact rfl
 apply sd_plain (hfree := rfl); intro _; exact do_indexAddrA rfl rfl rfl (by exact rfl); exact rfl
 iterate 2 (apply sd_plain (hfree := rfl); intro _; exact do_fieldAddr rfl rfl; exact rfl)
 apply sd_look (hfree := rfl); exact do_load rfl (by exact ext_get_old (by assumption) (by assumption)) rfl (by exact rfl); exact rfl
 apply sd_plain (hfree := rfl); intro _; exact do_neg rfl (by omega); exact rfl
 apply sd_plain (hfree := rfl); intro _; exact do_build rfl rfl rfl rfl; exact rfl
 apply sd_plain (hfree := rfl); intro _; exact do_indexAddrA rfl rfl rfl (by exact rfl); exact rfl
 apply sd_plain (hfree := rfl); intro _; exact do_fieldAddr rfl rfl; exact rfl
 refine sd_put0 (k := 0) rfl (by decide +kernel) hc' (by simp) (do_store rfl rfl (ext_get_new rfl) rfl rfl (nb_own _)) ?_
 apply sd_nil
 simp only [List.map_nil, List.append_nil]
 apply ct_region
 apply seq_plain; exact do_move rfl; exact rfl
 apply seq_plain; exact do_indexAddrA rfl rfl rfl (by exact rfl); exact rfl
 apply seq_plain; exact do_fieldAddr rfl rfl; exact rfl
 apply seq_plain; exact do_load rfl (by exact ext_get_new rfl) rfl (by exact rfl); exact rfl
 apply seq_plain; exact do_add rfl rfl (by omega); exact rfl
 apply seq_plain; exact do_indexAddrA rfl rfl rfl (by exact rfl); exact rfl
 apply seq_plain; exact do_fieldAddr rfl rfl; exact rfl
 apply seq_putC (hc := by assumption); rotate_left; exact do_store rfl rfl (by exact ext_get_new rfl) rfl rfl (nb_own _); rotate_left; exact Nat.le_of_ble_eq_true rfl
 apply ct_region
 apply seq_plain; exact do_add rfl rfl (by omega); exact rfl
 apply seq_plain; exact do_move rfl; exact rfl
 apply seq_nil
 refine lt_to (l' := [(4, .pointer (some ⟨b0, 0, none⟩)), (5, .pointer (some ⟨b1, 0, none⟩)), (6, .bool false), (22, .pointer (some ⟨nb h 0, 0, none⟩)), (23, .pointer (some ⟨nb h 1, 0, none⟩)), (240, I 3)]) (h' := ext h lo [some (.cells [I (-ma.x), I (-ma.y), I ma.h, I (-mb.x), I (-mb.y), I mb.h, I (-mc.x), I (-mc.y), I mc.h] 0 false false), some (.cells [I ma.x, I ma.y, I (ma.h + 77), I mb.x, I mb.y, I (mb.h + 77), I mc.x, I mc.y, I (mc.h + 77)] 0 false false)]) (by repeat (first | exact sub_nil | apply sub_cons rfl)) (.refl _) ?_
 refine lt_step ?_
 apply ct_seq
 apply ct_region
 apply seq_plain; exact do_binInt rfl rfl rfl trivial; exact rfl
 apply seq_nil
 apply ct_seq
 refine ct_cond_f rfl rfl ?_
 apply ct_exit
 apply exit_eq; exact rfl
 apply ct_seq
 apply ct_region
 apply seq_plain; exact do_load rfl (by exact ext_get_old (by assumption) (by assumption)) rfl (by exact rfl); exact rfl
 have ca := fun lo L => slope_c (H := ext h lo L) (Glo.ext hG) ga gb gc
 have ct := fun lo L => slope_c (H := ext h lo L) (a := turnM ma) (b := turnM mb) (c := turnM mc) (Glo.ext hG) (goodT ga) (goodT gb) (goodT gc)
 have cr := fun lo L => slope_c (H := ext h lo L) (a := raiseM ma) (b := raiseM mb) (c := raiseM mc) (Glo.ext hG) (goodR ga ga7) (goodR gb gb7) (goodR gc gc7)
 rw [slope_raise] at cr
 obtain ⟨V, hV⟩ : ∃ V, V = levelB [ma, mb, mc] lim := ⟨_, rfl⟩
 have cl := fun lo L => level_c (H := ext h lo L) (q := some ⟨b1, 0, none⟩) (c := 3) (l := [ma, mb, mc]) (most := lim) (slAt_flat mk_len (ext_get_old hc' hb1)) low_arr (by simp) (fun x hx => by
  simp only [List.mem_cons, List.not_mem_nil, or_false] at hx
  rcases hx with rfl | rfl | rfl <;> assumption) (by omega) l2
 have cl2 := fun lo L (hL : L[1]? = some (some (.cells (m9 (raiseM ma) (raiseM mb) (raiseM mc)) 0 false false))) => level_c (H := ext h lo L) (q := some ⟨nb h 1, 0, none⟩) (c := 3) (l := [raiseM ma, raiseM mb, raiseM mc]) (most := lim) (slAt_flat mk_len (ext_get_new (by exact hL))) low_arr (by simp) (fun x hx => by
  simp only [List.mem_cons, List.not_mem_nil, or_false] at hx
  rcases hx with rfl | rfl | rfl
  ·exact goodR ga ga7
  ·exact goodR gb gb7
  ·exact goodR gc gc7) (by omega) l2
 have eV2 : levelB [raiseM ma, raiseM mb, raiseM mc] lim = V := by rw [hV]; exact level_raise [ma, mb, mc] lim
 rw [eV2] at cl2
 rw [← hV] at cl
 have eVV : (!(V == V)) = false := by simp
 have db := difB ga gb gc
 have p1 := db.p1
 have p2 := db.p2
 have p3 := db.p3
 have p4 := db.p4
 have p5 := db.p5
 have p6 := db.p6
 have hdB : -800000000 ≤ detM ma mb mc ∧ detM ma mb mc ≤ 800000000 := by unfold detM; omega
 have hxB : -79999999920000 ≤ numX ma mb mc ∧ numX ma mb mc ≤ 79999999920000 := by unfold numX; omega
 have hyB : -79999999920000 ≤ numY ma mb mc ∧ numY ma mb mc ≤ 79999999920000 := by unfold numY; omega
 clear db p1 p2 p3 p4 p5 p6
 by_cases hd : detM ma mb mc = 0
 ·have ev : slopeV ma mb mc = .tuple ⟨[plV [] [], I 14]⟩ := if_pos hd
  have et : slopeV (turnM ma) (turnM mb) (turnM mc) = .tuple ⟨[plV [] [], I 14]⟩ := if_pos (by rw [det_turn]; exact hd)
  rw [ev] at ca cr
  rw [et] at ct
  apply seq_call (ht := rfl); exact ca _ _; exact rfl
  apply seq_plain; exact do_move rfl; exact rfl
  iterate 2 (apply seq_plain; exact do_extract rfl rfl; exact rfl)
  apply seq_newP; exact do_alloc rfl rfl; exact rfl
  apply seq_put (hc := by assumption); rotate_left; exact do_store rfl rfl (by exact ext_get_new rfl) rfl rfl (nb_own _); rotate_left; exact Nat.le_of_ble_eq_true rfl
  apply seq_plain; exact do_assign rfl; exact rfl
  apply seq_nil
  apply ct_seq
  apply ct_region
  apply seq_plain; exact do_load rfl (by exact ext_get_new rfl) rfl (by exact rfl); exact rfl
  apply seq_call (ht := rfl); exact ct _ _; exact rfl
  apply seq_plain; exact do_move rfl; exact rfl
  iterate 2 (apply seq_plain; exact do_extract rfl rfl; exact rfl)
  apply seq_newP; exact do_alloc rfl rfl; exact rfl
  apply seq_put (hc := by assumption); rotate_left; exact do_store rfl rfl (by exact ext_get_new rfl) rfl rfl (nb_own _); rotate_left; exact Nat.le_of_ble_eq_true rfl
  apply seq_plain; exact do_assign rfl; exact rfl
  apply seq_nil
  apply ct_seq
  apply ct_region
  apply seq_plain; exact do_load rfl (by exact ext_get_new rfl) rfl (by exact rfl); exact rfl
  apply seq_call (ht := rfl); exact cr _ _; exact rfl
  apply seq_plain; exact do_move rfl; exact rfl
  iterate 2 (apply seq_plain; exact do_extract rfl rfl; exact rfl)
  apply seq_newP; exact do_alloc rfl rfl; exact rfl
  apply seq_put (hc := by assumption); rotate_left; exact do_store rfl rfl (by exact ext_get_new rfl) rfl rfl (nb_own _); rotate_left; exact Nat.le_of_ble_eq_true rfl
  apply seq_plain; exact do_assign rfl; exact rfl
  apply seq_nil
  apply ct_seq
  apply ct_draw (by assumption); decide +kernel
  apply sd_look (hfree := rfl); exact do_sliceArr rfl rfl rfl; exact rfl
  apply sd_plain (hfree := rfl); intro _; exact do_fieldAddr rfl rfl; exact rfl
  apply sd_look (hfree := rfl); exact do_load rfl (by exact ext_get_old (by assumption) (by assumption)) rfl (by exact rfl); exact rfl
  apply sd_call (ht := rfl); exact cl _ _; exact rfl
  apply sd_plain (hfree := rfl); intro _; exact do_move rfl; exact rfl
  iterate 2 (apply sd_plain (hfree := rfl); intro _; exact do_extract rfl rfl; exact rfl)
  iterate 2 (apply sd_plain (hfree := rfl); intro _; exact do_assign rfl; exact rfl)
  apply sd_nil
  apply ct_seq
  apply ct_draw (by assumption); decide +kernel
  apply sd_look (hfree := rfl); exact do_sliceArr rfl rfl rfl; exact rfl
  apply sd_plain (hfree := rfl); intro _; exact do_fieldAddr rfl rfl; exact rfl
  apply sd_look (hfree := rfl); exact do_load rfl (by exact ext_get_old (by assumption) (by assumption)) rfl (by exact rfl); exact rfl
  apply sd_call (ht := rfl); exact cl2 _ _ rfl; exact rfl
  apply sd_plain (hfree := rfl); intro _; exact do_move rfl; exact rfl
  iterate 2 (apply sd_plain (hfree := rfl); intro _; exact do_extract rfl rfl; exact rfl)
  iterate 2 (apply sd_plain (hfree := rfl); intro _; exact do_assign rfl; exact rfl)
  apply sd_nil
  iterate 2 (apply ct_seq)
  apply ct_region
  iterate 2 (apply seq_plain; exact do_move rfl; exact rfl)
  apply seq_plain; exact do_binInt rfl rfl rfl trivial; exact rfl
  apply seq_plain; exact do_move rfl; exact rfl
  iterate 2 (apply seq_guard (hd := rfl) (hl := rfl); exact do_move rfl; exact rfl)
  apply seq_guard (hd := rfl) (hl := rfl); exact do_binInt rfl rfl rfl trivial; exact rfl
  apply seq_plain; exact do_pick_f rfl rfl; exact rfl
  apply seq_plain; exact do_move rfl; exact rfl
  iterate 2 (apply seq_guard (hd := rfl) (hl := rfl); exact do_move rfl; exact rfl)
  apply seq_guard (hd := rfl) (hl := rfl); exact do_add rfl rfl (by omega); exact rfl
  apply seq_guard (hd := rfl) (hl := rfl); exact do_binInt rfl rfl rfl trivial; exact rfl
  apply seq_plain; exact do_pick_f rfl rfl; exact rfl
  apply seq_plain; exact do_move rfl; exact rfl
  iterate 2 (apply seq_guard (hd := rfl) (hl := rfl); exact do_move rfl; exact rfl)
  apply seq_guard (hd := rfl) (hl := rfl); exact do_neq rfl rfl trivial rfl; exact rfl
  rw [eVV]
  apply seq_plain; exact do_pick_f rfl rfl; exact rfl
  apply seq_plain; exact do_move rfl; exact rfl
  iterate 2 (apply seq_guard (hd := rfl) (hl := rfl); exact do_load rfl (by exact ext_get_new rfl) rfl (by exact rfl); exact rfl)
  apply seq_guard (hd := rfl) (hl := rfl); exact do_neq rfl rfl trivial (eqAPl _ _); exact rfl
  apply seq_plain; exact do_pick_f rfl rfl; exact rfl
  apply seq_nil
  refine ct_cond_f rfl rfl ?_
  apply ct_skip
  iterate 2 (apply ct_seq)
  apply ct_region
  apply seq_plain; exact do_move rfl; exact rfl
  apply seq_plain; exact do_binInt rfl rfl rfl trivial; exact rfl
  apply seq_nil
  refine ct_cond_t rfl rfl ?_
  apply ct_seq
  apply ct_region
  apply seq_plain; exact do_move rfl; exact rfl
  apply seq_plain; exact do_binInt rfl rfl rfl trivial; exact rfl
  apply seq_plain; exact do_assign rfl; exact rfl
  apply seq_nil
  apply ct_ret
  exact fin_flatB hc hc' hE rfl rfl ⟨rfl, rfl⟩
 ·have ev : slopeV ma mb mc = .tuple ⟨[plV (ofS (numX ma mb mc) (detM ma mb mc)) (ofS (numY ma mb mc) (detM ma mb mc)), I 0]⟩ := if_neg hd
  have et : slopeV (turnM ma) (turnM mb) (turnM mc) = .tuple ⟨[plV (ofS (-numX ma mb mc) (detM ma mb mc)) (ofS (-numY ma mb mc) (detM ma mb mc)), I 0]⟩ := by
   unfold slopeV
   rw [det_turn, numX_turn, numY_turn, if_neg hd]
  rw [ev] at ca cr
  rw [et] at ct
  have gx := ofS_good (n := numX ma mb mc) (d := detM ma mb mc) (by omega) (by omega) (by omega) (by omega) hd
  have gy := ofS_good (n := numY ma mb mc) (d := detM ma mb mc) (by omega) (by omega) (by omega) (by omega) hd
  have gx' := ofS_good (n := -numX ma mb mc) (d := detM ma mb mc) (by omega) (by omega) (by omega) (by omega) hd
  have gy' := ofS_good (n := -numY ma mb mc) (d := detM ma mb mc) (by omega) (by omega) (by omega) (by omega) hd
  have sx := fun H => sumOpp_c (H := H) (n := numX ma mb mc) (d := detM ma mb mc) (by omega) (by omega) (by omega) (by omega) hd
  have sy := fun H => sumOpp_c (H := H) (n := numY ma mb mc) (d := detM ma mb mc) (by omega) (by omega) (by omega) (by omega) hd
  obtain ⟨X, hX⟩ : ∃ X, X = ofS (numX ma mb mc) (detM ma mb mc) := ⟨_, rfl⟩
  obtain ⟨Y, hY⟩ : ∃ Y, Y = ofS (numY ma mb mc) (detM ma mb mc) := ⟨_, rfl⟩
  obtain ⟨X', hX'⟩ : ∃ X, X = ofS (-numX ma mb mc) (detM ma mb mc) := ⟨_, rfl⟩
  obtain ⟨Y', hY'⟩ : ∃ Y, Y = ofS (-numY ma mb mc) (detM ma mb mc) := ⟨_, rfl⟩
  rw [← hX] at ca cr gx
  rw [← hY] at ca cr gy
  rw [← hX'] at ct gx'
  rw [← hY'] at ct gy'
  simp only [← hX, ← hX'] at sx
  simp only [← hY, ← hY'] at sy
  apply seq_call (ht := rfl); exact ca _ _; exact rfl
  apply seq_plain; exact do_move rfl; exact rfl
  iterate 2 (apply seq_plain; exact do_extract rfl rfl; exact rfl)
  apply seq_newP; exact do_alloc rfl rfl; exact rfl
  apply seq_put (hc := by assumption); rotate_left; exact do_store rfl rfl (by exact ext_get_new rfl) rfl rfl (nb_own _); rotate_left; exact Nat.le_of_ble_eq_true rfl
  apply seq_plain; exact do_assign rfl; exact rfl
  apply seq_nil
  apply ct_seq
  apply ct_region
  apply seq_plain; exact do_load rfl (by exact ext_get_new rfl) rfl (by exact rfl); exact rfl
  apply seq_call (ht := rfl); exact ct _ _; exact rfl
  apply seq_plain; exact do_move rfl; exact rfl
  iterate 2 (apply seq_plain; exact do_extract rfl rfl; exact rfl)
  apply seq_newP; exact do_alloc rfl rfl; exact rfl
  apply seq_put (hc := by assumption); rotate_left; exact do_store rfl rfl (by exact ext_get_new rfl) rfl rfl (nb_own _); rotate_left; exact Nat.le_of_ble_eq_true rfl
  apply seq_plain; exact do_assign rfl; exact rfl
  apply seq_nil
  apply ct_seq
  apply ct_region
  apply seq_plain; exact do_load rfl (by exact ext_get_new rfl) rfl (by exact rfl); exact rfl
  apply seq_call (ht := rfl); exact cr _ _; exact rfl
  apply seq_plain; exact do_move rfl; exact rfl
  iterate 2 (apply seq_plain; exact do_extract rfl rfl; exact rfl)
  apply seq_newP; exact do_alloc rfl rfl; exact rfl
  apply seq_put (hc := by assumption); rotate_left; exact do_store rfl rfl (by exact ext_get_new rfl) rfl rfl (nb_own _); rotate_left; exact Nat.le_of_ble_eq_true rfl
  apply seq_plain; exact do_assign rfl; exact rfl
  apply seq_nil
  apply ct_seq
  apply ct_draw (by assumption); decide +kernel
  apply sd_look (hfree := rfl); exact do_sliceArr rfl rfl rfl; exact rfl
  apply sd_plain (hfree := rfl); intro _; exact do_fieldAddr rfl rfl; exact rfl
  apply sd_look (hfree := rfl); exact do_load rfl (by exact ext_get_old (by assumption) (by assumption)) rfl (by exact rfl); exact rfl
  apply sd_call (ht := rfl); exact cl _ _; exact rfl
  apply sd_plain (hfree := rfl); intro _; exact do_move rfl; exact rfl
  iterate 2 (apply sd_plain (hfree := rfl); intro _; exact do_extract rfl rfl; exact rfl)
  iterate 2 (apply sd_plain (hfree := rfl); intro _; exact do_assign rfl; exact rfl)
  apply sd_nil
  apply ct_seq
  apply ct_draw (by assumption); decide +kernel
  apply sd_look (hfree := rfl); exact do_sliceArr rfl rfl rfl; exact rfl
  apply sd_plain (hfree := rfl); intro _; exact do_fieldAddr rfl rfl; exact rfl
  apply sd_look (hfree := rfl); exact do_load rfl (by exact ext_get_old (by assumption) (by assumption)) rfl (by exact rfl); exact rfl
  apply sd_call (ht := rfl); exact cl2 _ _ rfl; exact rfl
  apply sd_plain (hfree := rfl); intro _; exact do_move rfl; exact rfl
  iterate 2 (apply sd_plain (hfree := rfl); intro _; exact do_extract rfl rfl; exact rfl)
  iterate 2 (apply sd_plain (hfree := rfl); intro _; exact do_assign rfl; exact rfl)
  apply sd_nil
  iterate 2 (apply ct_seq)
  apply ct_region
  iterate 2 (apply seq_plain; exact do_move rfl; exact rfl)
  apply seq_plain; exact do_binInt rfl rfl rfl trivial; exact rfl
  apply seq_plain; exact do_move rfl; exact rfl
  iterate 2 (apply seq_guard (hd := rfl) (hl := rfl); exact do_move rfl; exact rfl)
  apply seq_guard (hd := rfl) (hl := rfl); exact do_binInt rfl rfl rfl trivial; exact rfl
  apply seq_plain; exact do_pick_f rfl rfl; exact rfl
  apply seq_plain; exact do_move rfl; exact rfl
  iterate 2 (apply seq_guard (hd := rfl) (hl := rfl); exact do_move rfl; exact rfl)
  apply seq_guard (hd := rfl) (hl := rfl); exact do_add rfl rfl (by omega); exact rfl
  apply seq_guard (hd := rfl) (hl := rfl); exact do_binInt rfl rfl rfl trivial; exact rfl
  apply seq_plain; exact do_pick_f rfl rfl; exact rfl
  apply seq_plain; exact do_move rfl; exact rfl
  iterate 2 (apply seq_guard (hd := rfl) (hl := rfl); exact do_move rfl; exact rfl)
  apply seq_guard (hd := rfl) (hl := rfl); exact do_neq rfl rfl trivial rfl; exact rfl
  rw [eVV]
  apply seq_plain; exact do_pick_f rfl rfl; exact rfl
  apply seq_plain; exact do_move rfl; exact rfl
  iterate 2 (apply seq_guard (hd := rfl) (hl := rfl); exact do_load rfl (by exact ext_get_new rfl) rfl (by exact rfl); exact rfl)
  apply seq_guard (hd := rfl) (hl := rfl); exact do_neq rfl rfl trivial (eqAPl _ _); exact rfl
  apply seq_plain; exact do_pick_f rfl rfl; exact rfl
  apply seq_nil
  refine ct_cond_f rfl rfl ?_
  apply ct_skip
  iterate 2 (apply ct_seq)
  apply ct_region
  apply seq_plain; exact do_move rfl; exact rfl
  apply seq_plain; exact do_binInt rfl rfl rfl trivial; exact rfl
  apply seq_nil
  refine ct_cond_f rfl rfl ?_
  apply ct_skip
  apply ct_seq
  apply ct_draw (by assumption); decide +kernel
  apply sd_look (hfree := rfl); exact do_load rfl (by exact ext_get_new rfl) rfl (by exact rfl); exact rfl
  apply sd_call (ht := rfl); exact checkPlace_c gx gy; exact rfl
  apply sd_look (hfree := rfl); exact do_load rfl (by exact ext_get_new rfl) rfl (by exact rfl); exact rfl
  apply sd_call (ht := rfl); exact checkPlace_c gx' gy'; exact rfl
  apply sd_plain (hfree := rfl); intro _; exact do_add rfl rfl (by omega); exact rfl
  apply sd_plain (hfree := rfl); intro _; exact do_binInt rfl rfl rfl trivial; exact rfl
  apply sd_plain (hfree := rfl); intro _; exact do_move rfl; exact rfl
  apply sd_guard (hfree := rfl) (hg := rfl) (hl := rfl); intro _; exact do_fieldAddr rfl rfl; exact rfl
  apply sd_guardL (hfree := rfl) (hg := rfl) (hl := rfl); exact do_load rfl (by exact ext_get_new rfl) rfl (by exact rfl); exact rfl
  apply sd_guard (hfree := rfl) (hg := rfl) (hl := rfl); intro _; exact do_fieldAddr rfl rfl; exact rfl
  apply sd_guardL (hfree := rfl) (hg := rfl) (hl := rfl); exact do_load rfl (by exact ext_get_new rfl) rfl (by exact rfl); exact rfl
  apply sd_gcall (hg := rfl) (hl := rfl) (ht := rfl); exact sx _; exact rfl
  apply sd_guard (hfree := rfl) (hg := rfl) (hl := rfl); intro _; exact do_strEq rfl rfl; exact rfl
  apply sd_plain (hfree := rfl); intro _; exact do_pick_t rfl rfl; exact rfl
  apply sd_plain (hfree := rfl); intro _; exact do_move rfl; exact rfl
  apply sd_guard (hfree := rfl) (hg := rfl) (hl := rfl); intro _; exact do_fieldAddr rfl rfl; exact rfl
  apply sd_guardL (hfree := rfl) (hg := rfl) (hl := rfl); exact do_load rfl (by exact ext_get_new rfl) rfl (by exact rfl); exact rfl
  apply sd_guard (hfree := rfl) (hg := rfl) (hl := rfl); intro _; exact do_fieldAddr rfl rfl; exact rfl
  apply sd_guardL (hfree := rfl) (hg := rfl) (hl := rfl); exact do_load rfl (by exact ext_get_new rfl) rfl (by exact rfl); exact rfl
  apply sd_gcall (hg := rfl) (hl := rfl) (ht := rfl); exact sy _; exact rfl
  apply sd_guard (hfree := rfl) (hg := rfl) (hl := rfl); intro _; exact do_strEq rfl rfl; exact rfl
  apply sd_plain (hfree := rfl); intro _; exact do_pick_t rfl rfl; exact rfl
  apply sd_plain (hfree := rfl); intro _; exact do_assign rfl; exact rfl
  apply sd_nil
  apply ct_ret
  exact fin_flatB hc hc' hE rfl rfl ⟨rfl, rfl⟩
end Go.Proofs.YtmcecjplgalcgaaGreatDoor
