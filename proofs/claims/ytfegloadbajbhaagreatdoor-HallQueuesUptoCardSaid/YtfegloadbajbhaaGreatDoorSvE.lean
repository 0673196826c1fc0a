/- Contract: Serve, as the reference has it. -/
import Derived.Test.YtfegloadbajbhaaGreatDoorSvC
import Derived.Test.YtfegloadbajbhaaGreatDoorFitB
noncomputable section
namespace Go.Den
section
variable {P : Program} {rd : Option Nat} {nt : Nat} {l : EL} {H : AHeap} {lo : Nat} {L : List (Option ABlk)} {α : Type} {m k0 : Nat} {f : α → List Value} {v : Value} {lst : List α}
theorem fin_lstB {Q : Value → AHeap → Prop} {rs : Array ResultVar} {n : Bool} (hc : Closed H) (hv : Lst H L m f k0 v lst) (hr : resE l rs.toList = some [v, .bool n]) (hf : ∀ x, (f x).all (flatD 8) = true) (hq : Q (.tuple ⟨[lstV H.fresh lst, .bool n]⟩) (lstH H m f lst)) : Fin P rs H Q ⟨ofA l, [], ext H lo L⟩ := by
  rcases hv.out with ⟨rfl, rfl⟩ | ⟨hne, k, hk, rfl, hL⟩
  · exact fin_flat hc hr rfl hq
  · cases lst with
    | nil => exact absurd rfl hne
    | cons a lst => exact fin_one hc hr hL (flat_all hf _) (v := .tuple ⟨[lstV H.fresh (a :: lst), .bool n]⟩) (by simp [packA, renV, renL, lstV, lstP, renOf_one (H := H) ⟨own_iff.1 (nb_own k), nb_ge k⟩]) (by exact hq)
theorem LstX.stay {K : Nat} {L' : List (Option ABlk)} (h : LstX H L m f K lst) (hs : Stay L.length L L') : LstX H L' m f K lst := by
  obtain ⟨s, h3⟩ := h.out
  exact ⟨s, hs.to h.lt h3⟩
theorem LstX.at_ {K : Nat} (hf : ∀ x, (f x).length = m) (h : LstX H L m f K lst) : SlAt (ext H lo L) m f (some ⟨nb H K, 0, none⟩) lst := by
  obtain ⟨s, h3⟩ := h.out
  exact slAt_flat hf (ext_get_new h3)
theorem LstX.blk {K : Nat} (h : LstX H L m f K lst) : BlkS (ext H lo L) (some ⟨nb H K, 0, none⟩) := by
  obtain ⟨s, h3⟩ := h.out
  exact .at_ (ext_get_new h3)
end
end Go.Den
namespace Go.Proofs.YtfegloadbajbhaaGreatDoor
open Go Go.Den
set_option maxRecDepth 100000
theorem With1_c {H : AHeap} {p : Option Addr} {c : Nat} {l : List Bk} {b : Bk} (hs : SlAt H 4 bk p l) (hb : BlkS H p) (hn : l.length < 1000000) :
    Ret Tryz.prog 41 [.slice p l.length c, .agg ⟨bk b⟩] H (.slice (some ⟨H.fresh, 0, none⟩) (l.length + 1) (l.length + 1)) (H.add (.cells ((l ++ [b]).flatMap bk) 4 true false)) := by
  have h := With_c (c := c) (b := b) hs hb hn
  obtain ⟨a, r, e⟩ : ∃ a r, l ++ [b] = a :: r := by
    cases l with
    | nil => exact ⟨b, [], rfl⟩
    | cons a l => exact ⟨a, l ++ [b], rfl⟩
  have e2 : (a :: r).length = l.length + 1 := by rw [← e]; simp
  rw [e] at h ⊢
  unfold lstV at h
  rw [e2] at h
  exact h
theorem flrB_succ {r : List Rq} {out : List Int} {k : ByteArray} {arr : Int} {m : Nat} (h1 : m < r.length) (h2 : m < out.length) : flrB r out k arr (m + 1) = flrS k (flrB r out k arr m) (r[m], out[m]) := by
  unfold flrB
  rw [take_snoc h1, take_snoc h2, List.zip_append (by rw [List.length_take, List.length_take]; omega), List.foldl_append]; rfl
theorem room_ro {t : List Tb} {l : List Bk} {b : Bk} (hf : FitP t l) : (roA t (l ++ [b]) (l ++ [b]).length).2.2 = false ↔ RoomP t l b.kind b.frm (b.to - b.frm) := by
  rw [roA_fit, fit_room]
  exact ⟨fun h => h.2, fun h => ⟨hf, h⟩⟩
theorem room_bkR {t : List Tb} {l : List Bk} {x : Rq} {s : Int} : RoomP t l (bkR x s).kind (bkR x s).frm ((bkR x s).to - (bkR x s).frm) ↔ RoomP t l x.kind s x.len := by
  have e : s + x.len - s = x.len := by omega
  simp only [bkR, e]
/-- the state of the reference's walk -/
structure SrW (H : AHeap) (t : List Tb) (l : List Bk) (w : List Rq) (out : List Int) (L : List (Option ABlk)) (Kn Ko : Nat) (vo : Value) : Prop where
  now : LstX H L 4 bk Kn (allB l w out out.length)
  ou : LstI H L 1 i1 Ko vo out
  sv : SvI t l w out
  fit : FitP t (allB l w out out.length)
set_option maxHeartbeats 16000000 in
theorem refServe_c {H : AHeap} {q r p : Option Addr} {c d e : Nat} {t : List Tb} {l : List Bk} {w : List Rq} (hs : SlAt H 2 tb q t) (hn : t.length < 1000000) (hr : SlAt H 4 bk r l) (hbl : BlkS H r) (hw : SlAt H 4 rq p w) (hb : bothE t l = 0) (hqz : quesE t w = 0) (hf : FitP t l) :
    Ret Tryz.prog 48 [.slice q t.length c, .slice r l.length d, .slice p w.length e] H (.tuple ⟨[lstV H.fresh (srvO t l w), .bool (srvE t l w == 0)]⟩) (lstH H 1 i1 (srvO t l w)) := by
  refine fn_start Tryz.func48 rfl rfl rfl fun hc => ?_
  obtain ⟨w1, hwo⟩ := ques_ok hqz
  have ok := both_ok hb
  have hl1 := ok.len
  have hbo := ok.ok
  have h1 : firstL [bothE t l, quesE t w] = 0 := firstL_z fun x hx => by
    simp only [List.mem_cons, List.not_mem_nil, or_false] at hx
    rcases hx with rfl | rfl
    · exact hb
    · exact hqz
  have h2 : fitB t l = true := ok.fit.2 hf
  have hwv : ∀ lo L, Wv (ext H lo L) 4 bk (.slice r l.length d) l := fun lo L => wv_of bk_len (hr.ext (ext_Ext hc)) (hbl.ext (ext_Ext hc))
  apply ct_seq
  apply ct_region
  apply seq_plain; exact do_assign rfl; exact rfl
  apply seq_plain; exact do_assign rfl; exact rfl
  apply seq_nil
  apply ct_seq
  apply ct_region
  apply seq_newS; exact do_buildSlice rfl rfl rfl rfl rfl rfl rfl; exact rfl
  apply seq_plain; exact do_move rfl; exact rfl
  refine seq_JX (ds := []) (α := Nat × List (Option ABlk)) (fun a => [(0, .slice q t.length c), (2, .slice p w.length e), (8, .slice (some ⟨nb H a.1, 0, none⟩) l.length l.length)]) (fun a => ext H H.fresh a.2) (fun a => LstX H a.2 4 bk a.1 l) ?_ (fun a ha => ?_)
  · by_cases hne : l = []
    · subst hne
      refine seq_plain (do_appNil rfl rfl rfl rfl rfl rfl (hwv _ _) (fun a e => by cases e; rfl) (Nat.le_refl _) (Nat.le_of_ble_eq_true rfl) (Nat.ne_of_beq_eq_false rfl) (Nat.ne_of_beq_eq_false rfl)) rfl ?_
      apply seq_plain; exact do_assign rfl; exact rfl
      apply seq_nil
      exact jx_of (0, _) ⟨_, rfl⟩ (by repeat (first | exact sub_nil | apply sub_cons rfl)) rfl
    · obtain ⟨b', o', c', cs, z, k, ro, e1, hg, hsl⟩ := (hwv H.fresh []).blk (by omega) bk_len hne
      have hg : ∀ lo L, (ext H lo L).get b' = some (.cells cs z k ro) := fun lo L => by
        obtain ⟨b2, o2, cs2, z2, s2, r2, e2, hg2, _⟩ := hr.out hne
        rw [e2] at e1
        cases e1
        have h3 := ext_get_old (lo := H.fresh) (L := []) hc hg2
        rw [hg] at h3
        rw [h3]
        exact ext_get_old hc hg2
      injection e1 with e1 _ e3
      cases e1
      subst e3
      refine seq_newS (do_appendY rfl rfl rfl rfl rfl rfl (hg _ _) hsl (ext_get_new rfl) (app_bd (by omega)) (Nat.ne_of_beq_eq_false rfl) (Nat.ne_of_beq_eq_false rfl) (List.length_pos_iff.2 hne)) rfl ?_
      apply seq_plain; exact do_assign rfl; exact rfl
      apply seq_nil
      exact jx_of (1, _) ⟨true, rfl⟩ (by repeat (first | exact sub_nil | apply sub_cons rfl)) rfl
  obtain ⟨Kn, L⟩ := a
  simp only at ha ⊢
  apply ct_seq
  apply ct_region
  apply seq_plain; exact do_assign rfl; exact rfl
  apply seq_nil
  apply ct_seq
  apply ct_seq
  apply ct_region
  apply seq_plain; exact do_assign rfl; exact rfl
  apply seq_nil
  apply ct_block
  apply ct_loop
  refine lt_meas (α := List Int × List (Option ABlk) × Nat × Nat × Value) (fun a => [(0, .slice q t.length c), (2, .slice p w.length e), (8, .slice (some ⟨nb H a.2.2.1, 0, none⟩) (allB l w a.1 a.1.length).length (allB l w a.1 a.1.length).length), (9, a.2.2.2.2), (10, I a.1.length)]) (fun a => ext H H.fresh a.2.1) (fun a => a.1.length ≤ w.length ∧ SrW H t l w a.1 a.2.1 a.2.2.1 a.2.2.2.1 a.2.2.2.2) (fun a => w.length - a.1.length) (fun a hx ih => ?_) ([], L, Kn, 0, .slice none 0 0) ⟨Nat.zero_le _, by simp only [List.length_nil]; rw [allB_zero]; exact ha, .nil, .nil, by simp only [List.length_nil]; rw [allB_zero]; exact hf⟩ (by simp only [List.length_nil]; rw [allB_zero]; repeat (first | exact sub_nil | apply sub_cons rfl)) (.refl _)
  clear ha Kn L
  obtain ⟨out, L, Kn, Ko, vo⟩ := a
  obtain ⟨hj, hW⟩ := hx
  simp only at hj hW ih ⊢
  have ih' := fun out' L' Kn' Ko' vo' a1 a2 a3 => ih (out', L', Kn', Ko', vo') a1 ⟨a2, a3⟩
  simp only at ih'
  clear ih
  apply ct_seq
  apply ct_seq
  apply ct_region
  apply seq_plain; exact do_move rfl; exact rfl
  apply seq_plain; exact do_move rfl; exact rfl
  apply seq_plain; exact do_lenS rfl rfl rfl; exact rfl
  apply seq_plain; exact do_binInt rfl rfl rfl trivial; exact rfl
  apply seq_nil
  refine ct_cond rfl (fun h3 => ?_) (fun h3 => ?_)
  rotate_left
  · have h3 : out.length = w.length := by simp at h3; omega
    obtain ⟨e1, e2⟩ := srv_done h1 h2 hW.sv h3
    rw [e1, e2]
    apply ct_exit
    apply exit_eq; exact rfl
    apply ct_seq
    apply ct_region
    apply seq_plain; exact do_move rfl; exact rfl
    apply seq_plain; exact do_assign rfl; exact rfl
    apply seq_plain; exact do_assign rfl; exact rfl
    apply seq_nil
    apply ct_ret
    exact fin_lstB hc (hW.ou.lst (Nat.zero_le _)) rfl (fun _ => rfl) ⟨rfl, rfl⟩
  have h3 : out.length < w.length := by
    have h3 : decide ((out.length : Int) < (w.length : Int)) = true := h3
    simp only [decide_eq_true_eq] at h3; omega
  obtain ⟨bw, ow, csw, zw, sw, row, rfl, hgw, hww⟩ := hw.out (by intro e; rw [e] at h3; simp at h3)
  have wok := hwo _ (List.getElem_mem h3)
  have hfb := hW.sv.flr hwo w[out.length].kind
  have hto := hW.sv.to_ hwo hbo
  have hall := allB_len (l := l) (r := w) hj
  obtain ⟨al, hal⟩ : ∃ al, al = allB l w out out.length := ⟨_, rfl⟩
  have hnow := hW.now
  have hfit := hW.fit
  rw [← hal] at hto hall hnow hfit ⊢
  obtain ⟨po, rfl, hso, hpo⟩ := hW.ou.slice (lo := H.fresh) (fun _ => rfl)
  have wl1 := wok.l1
  have wl2 := wok.l2
  have wa1 := wok.a1
  have wa2 := wok.a2
  have hk := wok.k
  apply ct_skip
  apply ct_seq
  apply ct_block
  apply ct_seq
  apply ct_region
  apply seq_plain; exact do_move rfl; exact rfl
  apply seq_plain; exact do_move rfl; exact rfl
  apply seq_plain; exact do_indexAddrS rfl rfl rfl (by exact idx_nat (by omega)); exact rfl
  apply seq_plain; exact do_fieldAddr rfl rfl; exact rfl
  apply seq_plain; exact do_load rfl (by exact ext_get_old (by assumption) (by assumption)) rfl (by exact pt_sl1 (by assumption) (by omega) (Nat.le_of_ble_eq_true rfl) rfl); exact rfl
  apply seq_plain; exact do_assign rfl; exact rfl
  apply seq_nil
  apply ct_seq
  apply ct_seq
  apply ct_region
  apply seq_plain; exact do_assign rfl; exact rfl
  apply seq_nil
  apply ct_block
  apply ct_loop
  refine lt_up (fun k => [(0, .slice q t.length c), (2, .slice (some ⟨bw, ow, none⟩) w.length e), (8, .slice (some ⟨nb H Kn, 0, none⟩) al.length al.length), (9, .slice po out.length out.length), (10, I out.length), (11, I (flrB w out w[out.length].kind w[out.length].arr k)), (12, I k)]) (fun _ => True) out.length (fun k hkk _ ih2 => ?_) 0 (by omega) trivial (by repeat (first | exact sub_nil | apply sub_cons rfl))
  apply ct_seq
  apply ct_seq
  apply ct_region
  apply seq_plain; exact do_move rfl; exact rfl
  apply seq_plain; exact do_move rfl; exact rfl
  apply seq_plain; exact do_binInt rfl rfl rfl trivial; exact rfl
  apply seq_nil
  refine ct_cond rfl (fun h4 => ?_) (fun h4 => ?_)
  · have h4 : k < out.length := by
      have h4 : decide ((k : Int) < (out.length : Int)) = true := h4
      simp only [decide_eq_true_eq] at h4; omega
    have hkw : k < w.length := by omega
    obtain ⟨bo, oo, cso, zo, so, roo, rfl, hgo, hwo2⟩ := hso.out (by intro e; rw [e] at h4; simp at h4)
    have hfs := flrB_succ (k := w[out.length].kind) (arr := w[out.length].arr) hkw h4
    unfold flrS at hfs
    simp only at hfs
    apply ct_skip
    apply ct_seq
    apply ct_block
    apply ct_seq
    apply ct_draw (by assumption); decide +kernel
    apply sd_plain (hfree := rfl); intro _; exact do_move rfl; exact rfl
    apply sd_plain (hfree := rfl); intro _; exact do_move rfl; exact rfl
    apply sd_plain (hfree := rfl); intro _; exact do_indexAddrS rfl rfl rfl (by exact idx_nat (by omega)); exact rfl
    apply sd_plain (hfree := rfl); intro _; exact do_fieldAddr rfl rfl; exact rfl
    apply sd_look (hfree := rfl); exact do_load rfl (by exact ext_get_old (by assumption) (by assumption)) rfl (by exact pt_sl1 (by assumption) (by omega) (Nat.le_of_ble_eq_true rfl) rfl); exact rfl
    apply sd_plain (hfree := rfl); intro _; exact do_move rfl; exact rfl
    apply sd_plain (hfree := rfl); intro _; exact do_move rfl; exact rfl
    apply sd_plain (hfree := rfl); intro _; exact do_indexAddrS rfl rfl rfl (by exact idx_nat (by omega)); exact rfl
    apply sd_plain (hfree := rfl); intro _; exact do_fieldAddr rfl rfl; exact rfl
    apply sd_look (hfree := rfl); exact do_load rfl (by exact ext_get_old (by assumption) (by assumption)) rfl (by exact pt_sl1 (by assumption) (by omega) (Nat.le_of_ble_eq_true rfl) rfl); exact rfl
    apply sd_plain (hfree := rfl); intro _; exact do_binStr rfl rfl rfl; exact rfl
    apply sd_nil
    simp only [List.map_nil, List.append_nil]
    refine ct_cond rfl (fun u => ?_) (fun u => ?_)
    · have u : byteL w[k].kind.data.toList w[out.length].kind.data.toList = true := u
      rw [bytes_eq, decide_eq_true_eq] at u
      rw [if_pos u] at hfs
      apply ct_region
      apply seq_plain; exact do_move rfl; exact rfl
      apply seq_plain; exact do_move rfl; exact rfl
      apply seq_plain; exact do_move rfl; exact rfl
      apply seq_plain; exact do_indexAddrS rfl rfl rfl (by exact idx_nat (by omega)); exact rfl
      apply seq_plain; exact do_load rfl (by assumption) rfl (by exact pt_sl0 (by assumption) (by omega)); exact rfl
      apply seq_plain; exact do_max rfl; exact rfl
      apply seq_plain; exact do_assign rfl; exact rfl
      apply seq_nil
      apply ct_region
      apply seq_plain; exact do_move rfl; exact rfl
      apply seq_plain; exact do_succ rfl (by omega); exact rfl
      apply seq_plain; exact do_assign rfl; exact rfl
      apply seq_nil
      rw [← hfs]
      exact lt_sub (by repeat (first | exact sub_nil | apply sub_cons rfl)) (ih2 (k + 1) (by omega) (by omega) trivial)
    · have u : byteL w[k].kind.data.toList w[out.length].kind.data.toList = false := u
      rw [bytes_eq, decide_eq_false_iff_not] at u
      rw [if_neg u] at hfs
      rw [← hfs]
      apply ct_skip
      apply ct_region
      apply seq_plain; exact do_move rfl; exact rfl
      apply seq_plain; exact do_succ rfl (by omega); exact rfl
      apply seq_plain; exact do_assign rfl; exact rfl
      apply seq_nil
      exact lt_sub (by repeat (first | exact sub_nil | apply sub_cons rfl)) (ih2 (k + 1) (by omega) (by omega) trivial)
  have h4 : k = out.length := by simp at h4; omega
  subst h4
  clear ih2 hkk
  obtain ⟨fl, hfl⟩ : ∃ fl, fl = flrB w out w[out.length].kind w[out.length].arr out.length := ⟨_, rfl⟩
  have hflb : 0 ≤ fl ∧ fl ≤ 99999 := by rw [hfl, flrB_max wa1]; omega
  rw [← hfl]
  apply ct_exit
  apply exit_eq; exact rfl
  apply ct_seq
  apply ct_block
  apply ct_loop
  have cW : ∀ lo M (b : Bk), LstX H M 4 bk Kn al → Ret Tryz.prog 41 [.slice (some ⟨nb H Kn, 0, none⟩) al.length al.length, .agg ⟨bk b⟩] (ext H lo M) (.slice (some ⟨(ext H lo M).fresh, 0, none⟩) (al.length + 1) (al.length + 1)) ((ext H lo M).add (.cells ((al ++ [b]).flatMap bk) 4 true false)) := fun lo M b hM => With1_c (hM.at_ bk_len) hM.blk (by omega)
  have cF : ∀ lo M (b : Bk), Ret Tryz.prog 40 [.slice q t.length c, .slice (some ⟨nb H M.length, 0, none⟩) (al.length + 1) (al.length + 1)] (ext H lo (M ++ [some (.cells ((al ++ [b]).flatMap bk) 4 true false)])) (.bool (!(roA t (al ++ [b]) (al ++ [b]).length).2.2)) (ext H lo (M ++ [some (.cells ((al ++ [b]).flatMap bk) 4 true false)])) := fun lo M b => by
    have h := refFits_c (H := ext H lo (M ++ [some (.cells ((al ++ [b]).flatMap bk) 4 true false)])) (c := c) (d := al.length + 1) (l := al ++ [b]) (hs.ext (ext_Ext hc)) hn (slAt_flat bk_len (ext_get_new List.getElem?_concat_length)) (by simp; omega)
    have e2 : (al ++ [b]).length = al.length + 1 := by simp
    rw [e2] at h
    rw [e2]
    exact h
  refine lt_meas (α := Int × List (Option ABlk)) (fun a => [(0, .slice q t.length c), (2, .slice (some ⟨bw, ow, none⟩) w.length e), (8, .slice (some ⟨nb H Kn, 0, none⟩) al.length al.length), (9, .slice po out.length out.length), (10, I out.length), (11, I a.1)]) (fun a => ext H H.fresh a.2) (fun a => fl ≤ a.1 ∧ a.1 ≤ 99999 ∧ (∀ z, fl ≤ z → z < a.1 → ¬ RoomP t al w[out.length].kind z w[out.length].len) ∧ Stay L.length L a.2 ∧ L.length ≤ a.2.length) (fun a => (99999 - a.1).toNat) (fun a ha ih => ?_) (fl, L) ⟨Int.le_refl _, hflb.2, fun z h4 h5 => by omega, .refl _ _, Nat.le_refl _⟩ (by repeat (first | exact sub_nil | apply sub_cons rfl)) (.refl _)
  obtain ⟨st, M⟩ := a
  obtain ⟨hs1, hs2, hs3, hst, hLM⟩ := ha
  simp only at hs1 hs2 hs3 hst hLM ih ⊢
  have ih2' := fun st' M' a1 a2 a3 a4 a5 a6 => ih (st', M') a1 ⟨a2, a3, a4, a5, a6⟩
  simp only at ih2'
  clear ih
  have hnM := hnow.stay hst
  obtain ⟨R, hR⟩ : ∃ R, R = (roA t (al ++ [bkR w[out.length] st]) (al ++ [bkR w[out.length] st]).length).2.2 := ⟨_, rfl⟩
  have hroom : R = false ↔ RoomP t al w[out.length].kind st w[out.length].len := by rw [hR, room_ro hfit, room_bkR]
  have cF1 := cF H.fresh M (bkR w[out.length] st)
  rw [← hR] at cF1
  apply ct_seq
  apply ct_seq
  apply ct_draw (by assumption); decide +kernel
  apply sd_plain (hfree := rfl); intro _; exact do_move rfl; exact rfl
  apply sd_plain (hfree := rfl); intro _; exact do_move rfl; exact rfl
  apply sd_plain (hfree := rfl); intro _; exact do_move rfl; exact rfl
  apply sd_plain (hfree := rfl); intro _; exact do_move rfl; exact rfl
  apply sd_plain (hfree := rfl); intro _; exact do_indexAddrS rfl rfl rfl (by exact idx_nat (by omega)); exact rfl
  apply sd_plain (hfree := rfl); intro _; exact do_fieldAddr rfl rfl; exact rfl
  apply sd_look (hfree := rfl); exact do_load rfl (by exact ext_get_old (by assumption) (by assumption)) rfl (by exact pt_sl1 (by assumption) (by omega) (Nat.le_of_ble_eq_true rfl) rfl); exact rfl
  apply sd_plain (hfree := rfl); intro _; exact do_move rfl; exact rfl
  apply sd_plain (hfree := rfl); intro _; exact do_move rfl; exact rfl
  apply sd_plain (hfree := rfl); intro _; exact do_indexAddrS rfl rfl rfl (by exact idx_nat (by omega)); exact rfl
  apply sd_plain (hfree := rfl); intro _; exact do_fieldAddr rfl rfl; exact rfl
  apply sd_look (hfree := rfl); exact do_load rfl (by exact ext_get_old (by assumption) (by assumption)) rfl (by exact pt_sl1 (by assumption) (by omega) (Nat.le_of_ble_eq_true rfl) rfl); exact rfl
  apply sd_plain (hfree := rfl); intro _; exact do_move rfl; exact rfl
  apply sd_plain (hfree := rfl); intro _; exact do_move rfl; exact rfl
  apply sd_plain (hfree := rfl); intro _; exact do_move rfl; exact rfl
  apply sd_plain (hfree := rfl); intro _; exact do_move rfl; exact rfl
  apply sd_plain (hfree := rfl); intro _; exact do_indexAddrS rfl rfl rfl (by exact idx_nat (by omega)); exact rfl
  apply sd_plain (hfree := rfl); intro _; exact do_fieldAddr rfl rfl; exact rfl
  apply sd_look (hfree := rfl); exact do_load rfl (by exact ext_get_old (by assumption) (by assumption)) rfl (by exact pt_sl1 (by assumption) (by omega) (Nat.le_of_ble_eq_true rfl) rfl); exact rfl
  apply sd_plain (hfree := rfl); intro _; exact do_add rfl rfl (by omega); exact rfl
  apply sd_plain (hfree := rfl); intro _; exact do_build rfl rfl rfl rfl; exact rfl
  refine sd_callN (v := fun b' => .slice (some ⟨b', 0, none⟩) (al.length + 1) (al.length + 1)) (x := .cells ((al ++ [bkR w[out.length] st]).flatMap bk) 4 true false) rfl rfl (by decide +kernel) (cW _ _ (bkR w[out.length] st) (by simpa using hnM)) rfl ?_
  skip
  apply sd_callM (ht := rfl) (hw := rfl); decide +kernel; exact cF1; exact rfl
  apply sd_plain (hfree := rfl); intro _; exact do_unOp rfl rfl; exact rfl
  apply sd_nil
  refine ct_to (l' := [(0, .slice q t.length c), (2, .slice (some ⟨bw, ow, none⟩) w.length e), (8, .slice (some ⟨nb H Kn, 0, none⟩) al.length al.length), (9, .slice po out.length out.length), (10, I out.length), (11, I st), (74, .bool (!(!R)))]) (h' := ext H H.fresh (M ++ [some (.cells ((al ++ [bkR w[out.length] st]).flatMap bk) 4 true false)])) (by repeat (first | exact sub_nil | apply sub_cons rfl)) (.refl _) ?_
  have hst' : Stay L.length L (M ++ [some (.cells ((al ++ [bkR w[out.length] st]).flatMap bk) 4 true false)]) := hst.trans (.app _)
  obtain ⟨M', hM'⟩ : ∃ M', M' = M ++ [some (.cells ((al ++ [bkR w[out.length] st]).flatMap bk) 4 true false)] := ⟨_, rfl⟩
  have hLM' : L.length ≤ M'.length := by rw [hM', List.length_append]; omega
  rw [← hM'] at hst' ⊢
  have hnM' := hnow.stay hst'
  clear hM' hnM hst cF1 hLM M
  refine ct_cond rfl (fun u => ?_) (fun u => ?_)
  · have u : R = true := by
      have u : (!(!R)) = true := u
      simpa using u
    have hno : ¬ RoomP t al w[out.length].kind st w[out.length].len := fun hp => by rw [hroom.2 hp] at u; cases u
    obtain ⟨n1, ⟨xb, n2, n3⟩, n4⟩ := ne_next (l := al) (by omega : 0 < w[out.length].len) hk (by omega : 0 ≤ st) hno
    have hxb := hto _ n2
    clear hroom hR hno
    apply ct_skip
    apply ct_block
    apply ct_seq
    apply ct_region
    apply seq_plain; exact do_assign rfl; exact rfl
    apply seq_nil
    apply ct_seq
    apply ct_seq
    apply ct_region
    apply seq_plain; exact do_assign rfl; exact rfl
    apply seq_nil
    apply ct_block
    apply ct_loop
    refine lt_up (fun k => [(0, .slice q t.length c), (2, .slice (some ⟨bw, ow, none⟩) w.length e), (8, .slice (some ⟨nb H Kn, 0, none⟩) al.length al.length), (9, .slice po out.length out.length), (10, I out.length), (11, I st), (13, I (neA al st k)), (14, I k)]) (fun _ => True) al.length (fun k hkk _ ih3 => ?_) 0 (by omega) trivial (by repeat (first | exact sub_nil | apply sub_cons rfl))
    apply ct_seq
    apply ct_seq
    apply ct_region
    apply seq_plain; exact do_move rfl; exact rfl
    apply seq_plain; exact do_move rfl; exact rfl
    apply seq_plain; exact do_lenS rfl rfl rfl; exact rfl
    apply seq_plain; exact do_binInt rfl rfl rfl trivial; exact rfl
    apply seq_nil
    refine ct_cond rfl (fun h5 => ?_) (fun h5 => ?_)
    · have h5 : k < al.length := by
        have h5 : decide ((k : Int) < (al.length : Int)) = true := h5
        simp only [decide_eq_true_eq] at h5; omega
      obtain ⟨s5, hs5⟩ := hnM'.out
      have hn := neA_succ (l := al) (start := st) h5
      unfold neS at hn
      obtain ⟨Z, hZ⟩ : ∃ Z, Z = decide (al[k].to > st ∧ (neA al st k < 0 ∨ al[k].to < neA al st k)) := ⟨_, rfl⟩
      apply ct_skip
      apply ct_seq
      apply ct_block
      apply ct_seq
      apply ct_region
      apply seq_plain; exact do_move rfl; exact rfl
      apply seq_plain; exact do_move rfl; exact rfl
      apply seq_plain; exact do_indexAddrS rfl rfl rfl (by exact idx_nat (by omega)); exact rfl
      apply seq_plain; exact do_fieldAddr rfl rfl; exact rfl
      apply seq_plain; exact do_load rfl (by exact ext_get_new (by assumption)) rfl (by exact pt_flat1 (fun _ => rfl) (by omega) rfl); exact rfl
      apply seq_plain; exact do_move rfl; exact rfl
      apply seq_plain; exact do_binInt rfl rfl rfl trivial; exact rfl
      apply seq_plain; exact do_move rfl; exact rfl
      refine seq_J [(0, .slice q t.length c), (2, .slice (some ⟨bw, ow, none⟩) w.length e), (8, .slice (some ⟨nb H Kn, 0, none⟩) al.length al.length), (9, .slice po out.length out.length), (10, I out.length), (11, I st), (13, I (neA al st k)), (14, I k), (100, .bool Z)] (ds := []) (h := ext H H.fresh M') ?_ ?_
      · refine seq_gsplit rfl rfl (fun v1 => ?_) (fun v1 => ?_)
        · have v1' : al[k].to > st := of_decide_eq_true v1
          apply seq_guard (hd := rfl) (hl := rfl); exact do_move rfl; exact rfl
          apply seq_guard (hd := rfl) (hl := rfl); exact do_binInt rfl rfl rfl trivial; exact rfl
          apply seq_guard (hd := rfl) (hl := rfl); exact do_move rfl; exact rfl
          refine seq_gsplit rfl rfl (fun v2 => ?_) (fun v2 => ?_)
          · have v2' : neA al st k < 0 := of_decide_eq_true v2
            have ez : Z = true := by rw [hZ]; exact decide_eq_true ⟨v1', .inl v2'⟩
            rw [ez]
            apply seq_passed (hd := rfl) (hl := rfl) (hb := rfl); exact rfl
            apply seq_passed (hd := rfl) (hl := rfl) (hb := rfl); exact rfl
            apply seq_passed (hd := rfl) (hl := rfl) (hb := rfl); exact rfl
            apply seq_passed (hd := rfl) (hl := rfl) (hb := rfl); exact rfl
            apply seq_passed (hd := rfl) (hl := rfl) (hb := rfl); exact rfl
            apply seq_passed (hd := rfl) (hl := rfl) (hb := rfl); exact rfl
            apply seq_passed (hd := rfl) (hl := rfl) (hb := rfl); exact rfl
            apply seq_guard (hd := rfl) (hl := rfl); exact do_pick_t rfl rfl; exact rfl
            apply seq_plain; exact do_pick_t rfl rfl; exact rfl
            apply seq_nil
            exact jp_of (by repeat (first | exact sub_nil | apply sub_cons rfl))
          · have v2' : ¬ neA al st k < 0 := of_decide_eq_false v2
            have ez : Z = decide (al[k].to < neA al st k) := by
              rw [hZ]
              refine decide_eq_decide.2 ⟨fun g => g.2.resolve_left v2', fun g => ⟨v1', .inr g⟩⟩
            rw [ez]
            apply seq_guard (hd := rfl) (hl := rfl); exact do_move rfl; exact rfl
            apply seq_guard (hd := rfl) (hl := rfl); exact do_move rfl; exact rfl
            apply seq_guard (hd := rfl) (hl := rfl); exact do_indexAddrS rfl rfl rfl (by exact idx_nat (by omega)); exact rfl
            apply seq_guard (hd := rfl) (hl := rfl); exact do_fieldAddr rfl rfl; exact rfl
            apply seq_guard (hd := rfl) (hl := rfl); exact do_load rfl (by exact ext_get_new (by assumption)) rfl (by exact pt_flat1 (fun _ => rfl) (by omega) rfl); exact rfl
            apply seq_guard (hd := rfl) (hl := rfl); exact do_move rfl; exact rfl
            apply seq_guard (hd := rfl) (hl := rfl); exact do_binInt rfl rfl rfl trivial; exact rfl
            apply seq_guard (hd := rfl) (hl := rfl); exact do_pick_f rfl rfl; exact rfl
            apply seq_plain; exact do_pick_t rfl rfl; exact rfl
            apply seq_nil
            exact jp_of (by repeat (first | exact sub_nil | apply sub_cons rfl))
        · have v1' : ¬ al[k].to > st := of_decide_eq_false v1
          have ez : Z = false := by rw [hZ]; exact decide_eq_false fun g => v1' g.1
          rw [ez]
          apply seq_passed (hd := rfl) (hl := rfl) (hb := rfl); exact rfl
          apply seq_passed (hd := rfl) (hl := rfl) (hb := rfl); exact rfl
          apply seq_passed (hd := rfl) (hl := rfl) (hb := rfl); exact rfl
          apply seq_passedU (hd := rfl) (hl := rfl); exact rfl
          apply seq_passedU (hd := rfl) (hl := rfl); exact rfl
          apply seq_passedU (hd := rfl) (hl := rfl); exact rfl
          apply seq_passedU (hd := rfl) (hl := rfl); exact rfl
          apply seq_passedU (hd := rfl) (hl := rfl); exact rfl
          apply seq_passedU (hd := rfl) (hl := rfl); exact rfl
          apply seq_passedU (hd := rfl) (hl := rfl); exact rfl
          apply seq_passed (hd := rfl) (hl := rfl) (hb := rfl); exact rfl
          apply seq_plain; exact do_pick_f rfl rfl; exact rfl
          apply seq_nil
          exact jp_of (by repeat (first | exact sub_nil | apply sub_cons rfl))
      refine ct_cond rfl (fun v => ?_) (fun v => ?_)
      · have v : Z = true := v
        rw [hZ] at v
        rw [if_pos (of_decide_eq_true v)] at hn
        apply ct_region
        apply seq_plain; exact do_move rfl; exact rfl
        apply seq_plain; exact do_move rfl; exact rfl
        apply seq_plain; exact do_indexAddrS rfl rfl rfl (by exact idx_nat (by omega)); exact rfl
        apply seq_plain; exact do_fieldAddr rfl rfl; exact rfl
        apply seq_plain; exact do_load rfl (by exact ext_get_new (by assumption)) rfl (by exact pt_flat1 (fun _ => rfl) (by omega) rfl); exact rfl
        apply seq_plain; exact do_assign rfl; exact rfl
        apply seq_nil
        apply ct_region
        apply seq_plain; exact do_move rfl; exact rfl
        apply seq_plain; exact do_succ rfl (by omega); exact rfl
        apply seq_plain; exact do_assign rfl; exact rfl
        apply seq_nil
        rw [← hn]
        exact lt_sub (by repeat (first | exact sub_nil | apply sub_cons rfl)) (ih3 (k + 1) (by omega) (by omega) trivial)
      · have v : Z = false := v
        rw [hZ] at v
        rw [if_neg (of_decide_eq_false v)] at hn
        rw [← hn]
        apply ct_skip
        apply ct_region
        apply seq_plain; exact do_move rfl; exact rfl
        apply seq_plain; exact do_succ rfl (by omega); exact rfl
        apply seq_plain; exact do_assign rfl; exact rfl
        apply seq_nil
        exact lt_sub (by repeat (first | exact sub_nil | apply sub_cons rfl)) (ih3 (k + 1) (by omega) (by omega) trivial)
    have h5 : k = al.length := by simp at h5; omega
    subst h5
    apply ct_exit
    apply exit_eq; exact rfl
    apply ct_region
    apply seq_plain; exact do_move rfl; exact rfl
    apply seq_plain; exact do_assign rfl; exact rfl
    apply seq_nil
    refine lt_to (by repeat (first | exact sub_nil | apply sub_cons rfl)) (.refl _) (ih2' (neA al st al.length) M' (by omega) (by omega) (by omega) (fun z z1 z2 => ?_) hst' hLM')
    rcases Int.lt_or_le z st with z3 | z3
    · exact hs3 z z1 z3
    · exact n4 z z3 z2
  have u : R = false := by
    have u : (!(!R)) = false := u
    simpa using u
  have hrp := hroom.1 u
  have hle : Least t al w[out.length].kind fl w[out.length].len st := ⟨hs1, hrp, hs3⟩
  have hle2 := hle
  rw [hfl, hal] at hle2
  clear hroom hR u ih2' hs3 cF
  have cW1 := cW H.fresh M' (bkR w[out.length] st) hnM'
  apply ct_exit
  apply exit_eq; exact rfl
  apply ct_seq
  apply ct_seq
  apply ct_region
  apply seq_plain; exact do_move rfl; exact rfl
  apply seq_plain; exact do_move rfl; exact rfl
  apply seq_plain; exact do_move rfl; exact rfl
  apply seq_plain; exact do_indexAddrS rfl rfl rfl (by exact idx_nat (by omega)); exact rfl
  apply seq_plain; exact do_fieldAddr rfl rfl; exact rfl
  apply seq_plain; exact do_load rfl (by exact ext_get_old (by assumption) (by assumption)) rfl (by exact pt_sl1 (by assumption) (by omega) (Nat.le_of_ble_eq_true rfl) rfl); exact rfl
  apply seq_plain; exact do_add rfl rfl (by omega); exact rfl
  apply seq_plain; exact do_binInt rfl rfl rfl trivial; exact rfl
  apply seq_nil
  refine ct_cond rfl (fun h5 => ?_) (fun h5 => ?_)
  · have h5 : st + w[out.length].len > 99999 := by
      have h5 : decide (st + w[out.length].len > 99999) = true := h5
      simpa using h5
    obtain ⟨e1, e2⟩ := srv_late h1 h2 ⟨out, hW.sv, h3, st, hle2, by omega⟩
    rw [e1, e2]
    apply ct_seq
    apply ct_region
    apply seq_plain; exact do_assign rfl; exact rfl
    apply seq_plain; exact do_assign rfl; exact rfl
    apply seq_nil
    apply ct_ret
    exact fin_flat hc rfl rfl ⟨rfl, rfl⟩
  have h5 : st + w[out.length].len ≤ 99999 := by
    have h5 : decide (st + w[out.length].len > 99999) = false := h5
    simp only [decide_eq_false_iff_not] at h5; omega
  apply ct_skip
  apply ct_seq
  apply ct_draw (by assumption); decide +kernel
  apply sd_plain (hfree := rfl); intro _; exact do_move rfl; exact rfl
  apply sd_plain (hfree := rfl); intro _; exact do_move rfl; exact rfl
  apply sd_plain (hfree := rfl); intro _; exact do_move rfl; exact rfl
  apply sd_plain (hfree := rfl); intro _; exact do_indexAddrS rfl rfl rfl (by exact idx_nat (by omega)); exact rfl
  apply sd_plain (hfree := rfl); intro _; exact do_fieldAddr rfl rfl; exact rfl
  apply sd_look (hfree := rfl); exact do_load rfl (by exact ext_get_old (by assumption) (by assumption)) rfl (by exact pt_sl1 (by assumption) (by omega) (Nat.le_of_ble_eq_true rfl) rfl); exact rfl
  apply sd_plain (hfree := rfl); intro _; exact do_move rfl; exact rfl
  apply sd_plain (hfree := rfl); intro _; exact do_move rfl; exact rfl
  apply sd_plain (hfree := rfl); intro _; exact do_indexAddrS rfl rfl rfl (by exact idx_nat (by omega)); exact rfl
  apply sd_plain (hfree := rfl); intro _; exact do_fieldAddr rfl rfl; exact rfl
  apply sd_look (hfree := rfl); exact do_load rfl (by exact ext_get_old (by assumption) (by assumption)) rfl (by exact pt_sl1 (by assumption) (by omega) (Nat.le_of_ble_eq_true rfl) rfl); exact rfl
  apply sd_plain (hfree := rfl); intro _; exact do_move rfl; exact rfl
  apply sd_plain (hfree := rfl); intro _; exact do_move rfl; exact rfl
  apply sd_plain (hfree := rfl); intro _; exact do_move rfl; exact rfl
  apply sd_plain (hfree := rfl); intro _; exact do_move rfl; exact rfl
  apply sd_plain (hfree := rfl); intro _; exact do_indexAddrS rfl rfl rfl (by exact idx_nat (by omega)); exact rfl
  apply sd_plain (hfree := rfl); intro _; exact do_fieldAddr rfl rfl; exact rfl
  apply sd_look (hfree := rfl); exact do_load rfl (by exact ext_get_old (by assumption) (by assumption)) rfl (by exact pt_sl1 (by assumption) (by omega) (Nat.le_of_ble_eq_true rfl) rfl); exact rfl
  apply sd_plain (hfree := rfl); intro _; exact do_add rfl rfl (by omega); exact rfl
  apply sd_plain (hfree := rfl); intro _; exact do_build rfl rfl rfl rfl; exact rfl
  refine sd_callN (v := fun b' => .slice (some ⟨b', 0, none⟩) (al.length + 1) (al.length + 1)) (x := .cells ((al ++ [bkR w[out.length] st]).flatMap bk) 4 true false) rfl rfl (by decide +kernel) (cW _ _ (bkR w[out.length] st) (by simpa using hnM')) rfl ?_
  refine sd_plain (hfree := rfl) (fun _ => do_assign rfl) rfl ?_
  apply sd_nil
  refine ct_to (l' := [(0, .slice q t.length c), (2, .slice (some ⟨bw, ow, none⟩) w.length e), (8, .slice (some ⟨nb H M'.length, 0, none⟩) (al.length + 1) (al.length + 1)), (9, .slice po out.length out.length), (10, I out.length), (11, I st)]) (h' := ext H H.fresh (M' ++ [some (.cells ((al ++ [bkR w[out.length] st]).flatMap bk) 4 true false)])) (by repeat (first | exact sub_nil | apply sub_cons rfl)) (.refl _) ?_
  apply ct_region
  apply seq_plain; exact do_move rfl; exact rfl
  apply seq_plain; exact do_move rfl; exact rfl
  apply seq_newS; exact do_buildSlice rfl rfl rfl rfl rfl rfl rfl; exact rfl
  refine seq_growI (m := 1) (f := i1) (lst := out) (k0 := Ko) (xs := [st]) hc (hW.ou.keep fun hne => ?_) (fun _ => rfl) (fun _ => rfl) rfl rfl rfl rfl rfl rfl (ext_get_new List.getElem?_concat_length) rfl (by simp) ?_ (Nat.ne_of_beq_eq_false rfl) (Nat.ne_of_beq_eq_false rfl) rfl (fun v' L7 hv' hst7 hlen7 => ?_)
  · obtain ⟨_, h⟩ := hW.ou.at_ hne
    rw [h]
    exact getApp (getApp (hst'.to (hW.ou.lt hne) h))
  · exact Nat.le_trans (Nat.mul_le_mul_right _ (by simp only [List.length_cons, List.length_nil]; omega : _ ≤ 3000000000)) (Nat.le_of_ble_eq_true rfl)
  have e3 : (out ++ [st]).length = out.length + 1 := by simp
  have ab : allB l w (out ++ [st]) (out ++ [st]).length = al ++ [bkR w[out.length] st] := by rw [e3, allB_snoc h3, ← hal]
  have abl : (al ++ [bkR w[out.length] st]).length = al.length + 1 := by simp
  have hnew : ∀ K, LstI H L7 1 i1 K v' (out ++ [st]) → SrW H t l w (out ++ [st]) L7 M'.length K v' := fun K hv' => by
    refine ⟨⟨true, ?_⟩, hv', hW.sv.snoc h3 hle2 h5, ?_⟩
    · rw [ab, hst7 _ (by simp) (fun hne => by have := hW.ou.lt hne; omega)]
      exact getApp List.getElem?_concat_length
    · rw [ab]
      exact fit_room.2 ⟨hfit, room_bkR.2 hrp⟩
  apply seq_plain; exact do_assign rfl; exact rfl
  apply seq_nil
  apply ct_region
  apply seq_plain; exact do_move rfl; exact rfl
  apply seq_plain; exact do_succ rfl (by omega); exact rfl
  apply seq_plain; exact do_assign rfl; exact rfl
  apply seq_nil
  exact lt_to (by rw [ab, abl, e3]; repeat (first | exact sub_nil | apply sub_cons rfl)) (.refl _) (ih' _ _ _ _ _ (by omega) (by omega) (hnew _ hv'))
end Go.Proofs.YtfegloadbajbhaaGreatDoor
