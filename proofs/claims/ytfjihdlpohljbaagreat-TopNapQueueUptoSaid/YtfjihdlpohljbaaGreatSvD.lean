/- Contract: Serve, as the program has it. -/
import Derived.Test.YtfjihdlpohljbaaGreatSvC
import Derived.Test.YtfjihdlpohljbaaGreatOpnD
noncomputable section
namespace Go.Proofs.YtfjihdlpohljbaaGreat
open Go Go.Den
set_option maxRecDepth 100000
theorem clone_state {H : AHeap} {lo : Nat} {L : List (Option ABlk)} {r : Option Addr} {d : Nat} {l : List Bk} (h1 : 1 < L.length) (hr : SlAt (ext H lo L) 4 bk r l) (hb : BlkS (ext H lo L) r) (hd : r = none → d = 0) (hn : l.length < 1000000) : ∃ X va Ka, Ret Tryz.prog 54 [.slice r l.length d] (ext H lo L) va (ext H lo (L ++ X)) ∧ AllA H (L ++ X) 4 bk Ka va l ∧ 0 < Ka ∧ Ka < (L ++ X).length := by
  cases r with
  | none =>
    have hl0 : l = [] := by
      apply Classical.byContradiction
      intro hne
      obtain ⟨_, _, _, _, _, _, e, _⟩ := hr.out hne
      cases e
    subst hl0
    obtain rfl := hd rfl
    exact ⟨[], .slice none 0 0, 1, by rw [List.append_nil]; exact clone0_c, ⟨.inl ⟨rfl, rfl⟩⟩, by omega, by rw [List.append_nil]; exact h1⟩
  | some x =>
    have h := clone_c (c := d) hr hb hn
    rw [ext_fresh, ext_add] at h
    exact ⟨_, _, L.length, h, ⟨.inr ⟨rfl, _, List.getElem?_concat_length⟩⟩, by omega, by simp⟩
set_option maxHeartbeats 16000000 in
theorem Serve_c {H : AHeap} {q r p : Option Addr} {c d e : Nat} {t : List Tb} {l : List Bk} {w : List Rq} (hs : SlAt H 2 tb q t) (hlow : LowS q c t.length) (hn : t.length < 1000000) (hr : SlAt H 4 bk r l) (hlow2 : LowS r d l.length) (hq : OldS H r) (hbl : BlkS H r) (hd : r = none → d = 0) (hm : l.length < 900000) (hw : SlAt H 4 rq p w) (hlow3 : LowS p e w.length) (hk : w.length < 900000) :
    Ret Tryz.prog 21 [.slice q t.length c, .slice r l.length d, .slice p w.length e] H (.tuple ⟨[lstV H.fresh (srvO t l w), I (srvE t l w)]⟩) (lstH H 1 i1 (srvO t l w)) := by
  refine fn_start Tryz.func21 rfl rfl rfl fun hc => ?_
  apply ct_seq
  apply ct_region
  apply seq_newP; exact do_box rfl rfl rfl; exact rfl
  iterate 2 (apply seq_plain; exact do_assign rfl; exact rfl)
  apply seq_nil
  iterate 2 (apply ct_seq)
  apply ct_draw (by assumption); decide +kernel
  apply sd_look (hfree := rfl); exact do_load rfl (by exact ext_get_new rfl) rfl (by exact rfl); exact rfl
  apply sd_plain (hfree := rfl); intro _; exact do_move rfl; exact rfl
  apply sd_call (ht := rfl); exact checkBoth_c (hs.ext (ext_Ext hc)) hlow (by omega) (hr.ext (ext_Ext hc)) hlow2 (by omega); exact rfl
  apply sd_look (hfree := rfl); exact do_load rfl (by exact ext_get_new rfl) rfl (by exact rfl); exact rfl
  apply sd_plain (hfree := rfl); intro _; exact do_move rfl; exact rfl
  apply sd_call (ht := rfl); exact checkQueue_c (hs.ext (ext_Ext hc)) (by omega) (hw.ext (ext_Ext hc)) hlow3 (by omega); exact rfl
  apply sd_newS (hfree := rfl); exact do_buildSlice rfl rfl rfl rfl rfl rfl rfl; exact rfl
  apply sd_callM (ht := rfl) (hw := rfl); decide +kernel; exact first84 (l := [_, _]) (slAt_map (ext_get_new rfl)) (by simp); exact rfl
  apply sd_plain (hfree := rfl); intro _; exact do_assign rfl; exact rfl
  apply sd_nil
  apply ct_seq
  apply ct_region
  apply seq_plain; exact do_move rfl; exact rfl
  apply seq_plain; exact do_binInt rfl rfl rfl trivial; exact rfl
  apply seq_nil
  refine ct_cond rfl (fun h1 => ?_) (fun h1 => ?_)
  · have h1 : firstL [bothE t l, quesE t w] ≠ 0 := by simpa using h1
    obtain ⟨e1, e2⟩ := srv_bad h1
    rw [e1, e2]
    apply ct_seq
    apply ct_region
    apply seq_plain; exact do_move rfl; exact rfl
    iterate 2 (apply seq_plain; exact do_assign rfl; exact rfl)
    apply seq_nil
    apply ct_ret
    exact fin_flat hc rfl rfl ⟨rfl, rfl⟩
  have h1 : firstL [bothE t l, quesE t w] = 0 := by simpa using h1
  apply ct_skip
  iterate 2 (apply ct_seq)
  apply ct_region
  apply seq_plain; exact do_load rfl (by exact ext_get_new rfl) rfl (by exact rfl); exact rfl
  apply seq_plain; exact do_move rfl; exact rfl
  apply seq_call (ht := rfl); exact fit_c (hs.ext (ext_Ext hc)) (by omega) (hr.ext (ext_Ext hc)) hq.ext (by omega); exact rfl
  apply seq_plain; exact do_unOp rfl rfl; exact rfl
  apply seq_nil
  refine ct_cond rfl (fun h2 => ?_) (fun h2 => ?_)
  · have h2 : fitB t l = false := by simpa using h2
    obtain ⟨e1, e2⟩ := srv_unfit h1 h2
    rw [e1, e2]
    apply ct_seq
    apply ct_region
    iterate 2 (apply seq_plain; exact do_assign rfl; exact rfl)
    apply seq_nil
    apply ct_ret
    exact fin_flat hc rfl rfl ⟨rfl, rfl⟩
  have h2 : fitB t l = true := by simpa using h2
  have hb : bothE t l = 0 := firstL_allZ h1 _ (by simp)
  have hqz : quesE t w = 0 := firstL_allZ h1 _ (by simp)
  obtain ⟨w1, hwo⟩ := ques_ok hqz
  have ok := both_ok hb
  have hl1 := ok.len
  have hbo := ok.ok
  have ht1 := ok.tlen
  refine ct_to (l' := [(1, .slice r l.length d), (2, .slice p w.length e), (3, .pointer (some ⟨nb H 0, 0, none⟩))]) (h' := ext H H.fresh [some (.cells [.slice q t.length c] 0 false false), some (.cells [I (bothE t l), I (quesE t w)] 1 false false)]) (by repeat (first | exact sub_nil | apply sub_cons rfl)) (.refl _) ?_
  obtain ⟨L0, hL0⟩ : ∃ L0 : List (Option ABlk), L0 = [some (.cells [.slice q t.length c] 0 false false), some (.cells [I (bothE t l), I (quesE t w)] 1 false false)] := ⟨_, rfl⟩
  have g0 : L0[0]? = some (some (.cells [.slice q t.length c] 0 false false)) := by rw [hL0]; rfl
  have gl0 : 1 < L0.length := by rw [hL0]; exact Nat.lt_of_sub_eq_succ rfl
  rw [← hL0]
  clear hL0
  obtain ⟨X, va, Ka0, cC, hall, ka1, ka2⟩ := clone_state (lo := H.fresh) (d := d) gl0 (hr.ext (ext_Ext hc)) (hbl.ext (ext_Ext hc)) hd (by omega)
  obtain ⟨pa0, rfl, hpa0⟩ := hall.slice
  apply ct_skip
  apply ct_seq
  apply ct_region
  apply seq_plain; exact do_move rfl; exact rfl
  apply seq_call (ht := rfl); exact cC; exact rfl
  obtain ⟨L1, hL1⟩ : ∃ L1, L1 = L0 ++ X := ⟨_, rfl⟩
  have g1 : L1[0]? = some (some (.cells [.slice q t.length c] 0 false false)) := by rw [hL1]; exact getApp g0
  have g1l : 0 < L1.length := (List.getElem?_eq_some_iff.1 g1).1
  rw [← hL1] at hall ka2 ⊢
  clear hL1 cC g0
  apply seq_newP; exact do_alloc rfl rfl; exact rfl
  apply seq_putC (hc := by assumption); rotate_left; exact do_store rfl rfl (by exact ext_get_new List.getElem?_concat_length) rfl rfl (nb_own _); rotate_left; exact (by simp)
  apply ct_seq
  apply ct_region
  apply seq_newM; exact do_makeMap0; exact rfl
  apply seq_plain; exact do_assign rfl; exact rfl
  apply seq_nil
  apply ct_seq
  apply ct_region
  apply seq_plain; exact do_assign rfl; exact rfl
  apply seq_nil
  iterate 2 (apply ct_seq)
  apply ct_region
  apply seq_plain; exact do_move rfl; exact rfl
  apply seq_plain; exact do_lenS rfl rfl rfl; exact rfl
  apply seq_plain; exact do_move rfl; exact rfl
  apply seq_nil
  apply ct_block
  apply ct_loop
  rw [set_mid rfl]
  obtain ⟨L2, hL2⟩ : ∃ L2, L2 = L1 ++ [some (ABlk.cells [Value.slice pa0 l.length l.length] 0 false false)] := ⟨_, rfl⟩
  have e1 : L2.length = L1.length + 1 := by rw [hL2]; simp
  have e2 : L2[0]? = some (some (.cells [.slice q t.length c] 0 false false)) := by rw [hL2]; exact getApp g1
  have e3 : L2[L1.length]? = some (some (.cells [.slice pa0 l.length l.length] 0 false false)) := by rw [hL2]; exact List.getElem?_concat_length
  have e4 : AllA H L2 4 bk Ka0 (.slice pa0 l.length l.length) l := by rw [hL2]; exact hall.app _
  have e5 : Ka0 ≠ L1.length := by omega
  have e6 : Ka0 ≠ L2.length := by omega
  have e7 : Ka0 < (L2 ++ [some (ABlk.map [] 0 false)]).length := by rw [List.length_append]; omega
  rw [← hL2]
  refine lt_meas (α := List Int × List (ByteArray × Int) × List (Option ABlk) × (Nat × Value) × (Nat × Value)) (fun a => [(3, .pointer (some ⟨nb H 0, 0, none⟩)), (9, .pointer (some ⟨nb H L1.length, 0, none⟩)), (10, .map (some (nb H L2.length))), (11, a.2.2.2.2.2), (38, .slice p w.length e), (39, I w.length), (40, I a.1.length)]) (fun a => ext H H.fresh a.2.2.1) (fun a => a.1.length ≤ w.length ∧ SvW H q c L1.length L2.length t l w a.1 a.2.1 a.2.2.1 a.2.2.2.1.1 a.2.2.2.1.2 a.2.2.2.2.1 a.2.2.2.2.2) (fun a => w.length - a.1.length) (fun a ha ih => ?_) ([], [], L2 ++ [some (.map [] 0 false)], (Ka0, .slice pa0 l.length l.length), (0, .slice none 0 0)) ?_ (by repeat (first | exact sub_nil | apply sub_cons rfl)) (.refl _)
  rotate_left
  · exact ⟨Nat.zero_le _, getApp e2, getApp e3, g1l, List.getElem?_concat_length, by simp only [List.length_nil]; rw [allB_zero]; exact e4.app _, .nil, .nil, fun k => rfl, ka1, e5, e6, e7⟩
  obtain ⟨K9, hK9⟩ : ∃ K9, K9 = L1.length := ⟨_, rfl⟩
  obtain ⟨Km, hKm⟩ : ∃ Km, Km = L2.length := ⟨_, rfl⟩
  rw [← hK9, ← hKm] at ih
  rw [← hK9, ← hKm] at ha
  rw [← hK9, ← hKm]
  clear hall g1 g1l hK9 hKm ka1 ka2 e1 e2 e3 e4 e5 e6 e7 hL2 hpa0 gl0 L2 L1 L0 X pa0
  obtain ⟨out, ms, L, ⟨Ka, va⟩, ⟨Ko, vo⟩⟩ := a
  obtain ⟨hj, hW⟩ := ha
  simp only at hj hW ih ⊢
  have ih' := fun out' ms' L' Ka' va' Ko' vo' a1 a2 a3 => ih (out', ms', L', (Ka', va'), (Ko', vo')) a1 ⟨a2, a3⟩
  simp only at ih'
  clear ih
  apply ct_seq
  apply ct_region
  apply seq_plain; exact do_binInt rfl rfl rfl trivial; exact rfl
  apply seq_nil
  apply ct_seq
  refine ct_cond rfl (fun h3 => ?_) (fun h3 => ?_)
  rotate_left
  · have h3 : out.length = w.length := by simp at h3; omega
    obtain ⟨e1, e2⟩ := srv_done h1 h2 hW.sv h3
    rw [e1, e2]
    apply ct_exit
    apply exit_eq; exact rfl
    apply ct_seq
    apply ct_region
    apply seq_plain; exact do_move rfl; exact rfl
    iterate 2 (apply seq_plain; exact do_assign rfl; exact rfl)
    apply seq_nil
    apply ct_ret
    exact fin_lst2 hc (hW.ou.lst (Nat.zero_le _)) rfl (fun _ => rfl) ⟨rfl, rfl⟩
  have h3 : out.length < w.length := by
    have h3 : decide ((out.length : Int) < (w.length : Int)) = true := h3
    simp only [decide_eq_true_eq] at h3; omega
  obtain ⟨bw, ow, csw, zw, sw, row, rfl, hgw, hww⟩ := hw.out (by intro e; rw [e] at h3; simp at h3)
  have wok := hwo _ (List.getElem_mem h3)
  have hfb := hW.sv.flr hwo w[out.length].kind
  have hto := hW.sv.to_ hwo hbo
  have hall := allB_len (l := l) (r := w) hj
  obtain ⟨al, hal⟩ : ∃ al, al = allB l w out out.length := ⟨_, rfl⟩
  have hAl := hW.al
  rw [← hal] at hto hall hAl
  obtain ⟨pa, rfl, hpa⟩ := hAl.slice
  have b0 := hW.box
  have b9 := hW.cel
  have bm := hW.mp
  have b9l := (List.getElem?_eq_some_iff.1 b9).1
  have bml := (List.getElem?_eq_some_iff.1 bm).1
  obtain ⟨x, hx⟩ : ∃ x, x = w[out.length] := ⟨_, rfl⟩
  rw [← hx] at wok hfb
  have wl1 := wok.l1
  have wl2 := wok.l2
  have wa1 := wok.a1
  have wa2 := wok.a2
  apply ct_skip
  apply ct_seq
  apply ct_block
  apply ct_seq
  apply ct_region
  apply seq_plain; exact do_indexAddrS rfl rfl rfl (by exact idx_nat (by omega)); exact rfl
  apply seq_plain; exact do_load rfl (by exact ext_get_old (by assumption) (by assumption)) rfl (by exact pt_sl (by assumption) (by omega)); exact rfl
  apply seq_newP; exact do_alloc rfl rfl; exact rfl
  apply seq_putC (hc := by assumption); rotate_left; exact do_store rfl rfl (by exact ext_get_new List.getElem?_concat_length) rfl rfl (nb_own _); rotate_left; exact (by simp)
  apply ct_seq
  apply ct_region
  apply seq_plain; exact do_fieldAddr rfl rfl; exact rfl
  apply seq_plain; exact do_load rfl (by exact ext_get_new getSetLast) rfl (by exact rfl); exact rfl
  apply seq_plain; exact do_move rfl; exact rfl
  apply seq_plain; exact do_fieldAddr rfl rfl; exact rfl
  apply seq_plain; exact do_load rfl (by exact ext_get_new getSetLast) rfl (by exact rfl); exact rfl
  rw [set_mid rfl]
  simp only [← hx]
  obtain ⟨fl, hfl⟩ : ∃ fl, fl = max x.arr ((getK ms x.kind).getD 0) := ⟨_, rfl⟩
  have hflB : fl = flrB w out x.kind x.arr out.length := by rw [hfl, hW.ms, ← flrB_max wa1]
  have hflb : 0 ≤ fl ∧ fl ≤ 99999 := by rw [hfl, hW.ms]; omega
  apply seq_plain; exact do_pairGet (f := strV) (g := fun n : Int => I n) (ks := ms) (a := x.kind) (z := I 0) (v := I ((getK ms x.kind).getD 0)) rfl rfl (ext_get_new (getApp bm)) rfl rfl keyStr (by cases getK ms x.kind <;> rfl); exact rfl
  apply seq_plain; exact do_max rfl; exact rfl
  apply seq_plain; exact do_assign rfl; exact rfl
  apply seq_nil
  apply ct_seq
  apply ct_region
  apply seq_plain; exact do_move rfl; exact rfl
  apply seq_newS; exact do_buildSlice rfl rfl rfl rfl rfl rfl rfl; exact rfl
  apply seq_plain; exact do_assign rfl; exact rfl
  apply seq_nil
  iterate 2 (apply ct_seq)
  apply ct_region
  apply seq_plain; exact do_load rfl (by exact ext_get_new (getApp (getApp (by assumption)))) rfl (by exact rfl); exact rfl
  apply seq_plain; exact do_lenS rfl rfl rfl; exact rfl
  apply seq_plain; exact do_move rfl; exact rfl
  apply seq_nil
  apply ct_block
  apply ct_loop
  rw [← hfl]
  obtain ⟨L1, hL1⟩ : ∃ L1, L1 = L ++ [some (.cells (rq x) 0 false false)] := ⟨_, rfl⟩
  have cx : L1[L.length]? = some (some (.cells (rq x) 0 false false)) := by rw [hL1]; exact List.getElem?_concat_length
  have hL1l : L1.length = L.length + 1 := by rw [hL1]; simp
  have c0 : L1[0]? = some (some (.cells [.slice q t.length c] 0 false false)) := by rw [hL1]; exact getApp b0
  have c9 : L1[K9]? = some (some (.cells [.slice pa al.length al.length] 0 false false)) := by rw [hL1]; exact getApp b9
  have cm : L1[Km]? = some (some (pairM strV (fun n : Int => I n) ms)) := by rw [hL1]; exact getApp bm
  have hAl1 : AllA H L1 4 bk Ka (.slice pa al.length al.length) al := by rw [hL1]; exact hAl.app _
  have hou1 : LstI H L1 1 i1 Ko vo out := by rw [hL1]; exact hW.ou.keeps (.app _)
  refine lt_meas (α := Nat × Nat × List (Option ABlk)) (fun a => [(3, .pointer (some ⟨nb H 0, 0, none⟩)), (9, .pointer (some ⟨nb H K9, 0, none⟩)), (10, .map (some (nb H Km))), (11, vo), (13, .pointer (some ⟨nb H L.length, 0, none⟩)), (14, I fl), (15, .slice (some ⟨nb H a.2.1, 0, none⟩) (fl :: tryF (al.take a.1) x.kind fl).length (fl :: tryF (al.take a.1) x.kind fl).length), (38, .slice (some ⟨bw, ow, none⟩) w.length e), (39, I w.length), (40, I out.length), (53, .slice pa al.length al.length), (54, I al.length), (55, I a.1)]) (fun a => ext H H.fresh a.2.2) (fun a => a.1 ≤ al.length ∧ Stay L1.length L1 a.2.2 ∧ L1.length ≤ a.2.1 ∧ LstX H a.2.2 1 i1 a.2.1 (fl :: tryF (al.take a.1) x.kind fl)) (fun a => al.length - a.1) (fun a ha ih => ?_) (0, L1.length, L1 ++ [some (.cells [I fl] 1 false false)]) ⟨Nat.zero_le _, .app _, Nat.le_refl _, ⟨false, List.getElem?_concat_length⟩⟩ (by rw [hL1]; repeat (first | exact sub_nil | apply sub_cons rfl)) (by rw [hL1]; exact .refl _)
  obtain ⟨i, Kt, M⟩ := a
  obtain ⟨hi, hst, hKt, hT⟩ := ha
  simp only at hi hst hKt hT ih ⊢
  have ih2' := fun i' Kt' M' a1 a2 a3 a4 a5 => ih (i', Kt', M') a1 ⟨a2, a3, a4, a5⟩
  simp only at ih2'
  clear ih
  have mx := hst.to (by omega) cx
  have hsl := (hAl1.stay hst).at_ (lo := H.fresh) bk_len
  have htl := tryF_len (l := al.take i) (k := x.kind) (fl := fl)
  rw [List.length_take] at htl
  apply ct_seq
  apply ct_region
  apply seq_plain; exact do_binInt rfl rfl rfl trivial; exact rfl
  apply seq_nil
  apply ct_seq
  refine ct_cond rfl (fun h4 => ?_) (fun h4 => ?_)
  · simp only [decide_eq_true_eq, Int.ofNat_lt] at h4
    obtain ⟨b2, o2, cs2, z2, s2, ro2, rfl, hg2, hw2⟩ := hsl.out (by intro e; rw [e] at h4; simp at h4)
    have se := tryF_snoc (k := x.kind) (fl := fl) h4
    obtain ⟨Z, hZ⟩ : ∃ Z, Z = (decide (al[i].kind = x.kind) && decide (al[i].to > fl)) := ⟨_, rfl⟩
    apply ct_skip
    apply ct_seq
    apply ct_block
    apply ct_seq
    apply ct_region
    apply seq_plain; exact do_indexAddrS rfl rfl rfl (by exact idx_nat (by omega)); exact rfl
    apply seq_plain; exact do_load rfl (by assumption) rfl (by exact pt_sl (by assumption) (by omega)); exact rfl
    apply seq_newP; exact do_alloc rfl rfl; exact rfl
    apply seq_putC (hc := by assumption); rotate_left; exact do_store rfl rfl (by exact ext_get_new List.getElem?_concat_length) rfl rfl (nb_own _); rotate_left; exact (by simp)
    apply ct_seq
    apply ct_region
    apply seq_plain; exact do_fieldAddr rfl rfl; exact rfl
    apply seq_plain; exact do_load rfl (by exact ext_get_new getSetLast) rfl (by exact rfl); exact rfl
    apply seq_plain; exact do_fieldAddr rfl rfl; exact rfl
    rw [set_mid rfl]
    apply seq_plain; exact do_load rfl (by exact ext_get_new (getApp (by assumption))) rfl (by exact rfl); exact rfl
    apply seq_plain; exact do_binStr rfl rfl rfl; exact rfl
    apply seq_plain; exact do_move rfl; exact rfl
    refine seq_J [(3, .pointer (some ⟨nb H 0, 0, none⟩)), (9, .pointer (some ⟨nb H K9, 0, none⟩)), (10, .map (some (nb H Km))), (11, vo), (13, .pointer (some ⟨nb H L.length, 0, none⟩)), (14, I fl), (15, .slice (some ⟨nb H Kt, 0, none⟩) (fl :: tryF (al.take i) x.kind fl).length (fl :: tryF (al.take i) x.kind fl).length), (17, .pointer (some ⟨nb H M.length, 0, none⟩)), (38, .slice (some ⟨bw, ow, none⟩) w.length e), (39, I w.length), (40, I out.length), (53, .slice (some ⟨b2, o2, none⟩) al.length al.length), (54, I al.length), (55, I i), (69, .bool Z)] (ds := []) (h := ext H H.fresh (M ++ [some (.cells (bk al[i]) 0 false false)])) ?_ ?_
    · refine seq_gsplit rfl rfl (fun u => ?_) (fun u => ?_)
      · have u : byteL al[i].kind.data.toList x.kind.data.toList = true := u
        rw [bytes_eq] at u
        have ez : Z = decide (al[i].to > fl) := by rw [hZ, u]; rfl
        rw [ez]
        apply seq_guard (hd := rfl) (hl := rfl); exact do_fieldAddr rfl rfl; exact rfl
        apply seq_guard (hd := rfl) (hl := rfl); exact do_load rfl (by exact ext_get_new List.getElem?_concat_length) rfl (by exact rfl); exact rfl
        apply seq_guard (hd := rfl) (hl := rfl); exact do_move rfl; exact rfl
        apply seq_guard (hd := rfl) (hl := rfl); exact do_binInt rfl rfl rfl trivial; exact rfl
        apply seq_plain; exact do_pick_t rfl rfl; exact rfl
        apply seq_nil
        exact jp_of (by repeat (first | exact sub_nil | apply sub_cons rfl))
      · have u : byteL al[i].kind.data.toList x.kind.data.toList = false := u
        rw [bytes_eq] at u
        have ez : Z = false := by rw [hZ, u]; rfl
        rw [ez]
        iterate 4 (apply seq_passed (hd := rfl) (hl := rfl) (hb := rfl); exact rfl)
        apply seq_plain; exact do_pick_f rfl rfl; exact rfl
        apply seq_nil
        exact jp_of (by repeat (first | exact sub_nil | apply sub_cons rfl))
    refine ct_cond rfl (fun u => ?_) (fun u => ?_)
    · have u : Z = true := u
      rw [hZ, Bool.and_eq_true, decide_eq_true_eq, decide_eq_true_eq] at u
      rw [if_pos u] at se
      apply ct_region
      apply seq_plain; exact do_move rfl; exact rfl
      apply seq_plain; exact do_fieldAddr rfl rfl; exact rfl
      apply seq_plain; exact do_load rfl (by exact ext_get_new List.getElem?_concat_length) rfl (by exact rfl); exact rfl
      apply seq_newS; exact do_buildSlice rfl rfl rfl rfl rfl rfl rfl; exact rfl
      refine seq_growX (xs := [al[i].to]) hc ((hT.app _).app _) (fun _ => rfl) (fun _ => rfl) rfl rfl rfl rfl rfl rfl (ext_get_new List.getElem?_concat_length) rfl (by simp) ?_ (Nat.ne_of_beq_eq_false rfl) (Nat.ne_of_beq_eq_false rfl) rfl (fun L3 hv' hst3 hlen3 => ?_)
      · exact Nat.le_trans (Nat.mul_le_mul_right _ (by simp only [List.length_cons, List.length_nil]; omega : _ ≤ 3000000000)) (Nat.le_of_ble_eq_true rfl)
      rw [List.cons_append, ← se] at hv'
      rw [List.cons_append, ← se]
      apply seq_plain; exact do_assign rfl; exact rfl
      apply seq_nil
      apply ct_region
      apply seq_plain; exact do_succ rfl (by omega); exact rfl
      apply seq_plain; exact do_move rfl; exact rfl
      apply seq_nil
      refine lt_to (by repeat (first | exact sub_nil | apply sub_cons rfl)) (.refl _) (ih2' (i + 1) _ L3 (by omega) (by omega) (fun j y hj hy => ?_) ?_ hv')
      · rw [hst3 j (by simp only [List.length_append]; have := (List.getElem?_eq_some_iff.1 (hst.to hj hy)).1; omega) (by omega)]
        exact getApp (getApp (hst.to hj hy))
      · have := hT.lt
        simp only [List.length_append]; omega
    · have u : Z = false := u
      rw [hZ, Bool.and_eq_false_iff, decide_eq_false_iff_not, decide_eq_false_iff_not] at u
      rw [if_neg (fun h => u.elim (fun g => g h.1) (fun g => g h.2)), List.append_nil] at se
      rw [← se] at hT ⊢
      apply ct_skip
      apply ct_region
      apply seq_plain; exact do_succ rfl (by omega); exact rfl
      apply seq_plain; exact do_move rfl; exact rfl
      apply seq_nil
      exact lt_to (by repeat (first | exact sub_nil | apply sub_cons rfl)) (.refl _) (ih2' (i + 1) Kt _ (by omega) (by omega) (hst.trans (Stay.app _)) hKt (hT.app _))
  have h4 : i = al.length := by simp at h4; omega
  subst h4
  clear ih2' htl hsl mx
  rw [List.take_length] at hT
  rw [List.take_length]
  obtain ⟨T, hTe⟩ : ∃ T, T = fl :: tryF al x.kind fl := ⟨_, rfl⟩
  have hTl : T.length ≤ 600000000 := by
    have := tryF_len (l := al) (k := x.kind) (fl := fl)
    rw [hTe, List.length_cons]; omega
  rw [← hTe] at hT ⊢
  obtain ⟨U, hU⟩ : ∃ U, U = tryL al x.kind fl := ⟨_, rfl⟩
  have hUs : U = srtI T := by rw [hU, hTe]; rfl
  have hUl : U.length = T.length := by rw [hUs, srtI_len]
  obtain ⟨s, hL⟩ := hT.out
  rw [flat_i1_map] at hL
  have hlt := hT.lt
  have cS : Ret Tryz.prog 55 [.slice (some ⟨nb H Kt, 0, none⟩) T.length T.length] (ext H H.fresh M) (packA []) ((ext H H.fresh M).put (nb H Kt) (.cells (U.map I) 1 s false)) := by
    rw [hUs]; exact sort_c (nb_own _) (ext_get_new hL) (by omega)
  apply ct_exit
  apply exit_eq; exact rfl
  apply ct_seq
  apply ct_region
  apply seq_plain; exact do_move rfl; exact rfl
  refine seq_callPC (k := Kt) hc hlt rfl cS rfl ?_
  obtain ⟨M2, hM2⟩ : ∃ M2, M2 = M.set Kt (some (.cells (U.map I) 1 s false)) := ⟨_, rfl⟩
  have hst2 : Stay L1.length L1 M2 := fun j y hj hy => by rw [hM2, List.getElem?_set_ne (by omega)]; exact hst j y hj hy
  have hL2 : M2[Kt]? = some (some (.cells (U.map I) 1 s false)) := by rw [hM2]; exact List.getElem?_set_self hlt
  have hM2l : L1.length < M2.length := by rw [hM2, List.length_set]; omega
  rw [← hM2]
  clear hM2 cS hL hT hst
  have m0 := hst2.to (by omega) c0
  have m9 := hst2.to (by omega) c9
  have mm := hst2.to (by omega) cm
  have mx := hst2.to (by omega) cx
  have hAl2 := hAl1.stay hst2
  have hsl := hAl2.at_ (lo := H.fresh) bk_len
  obtain ⟨ix, hix, hi1, hi2, hle⟩ := try_first (t := t) (l := al) (w := x) (fl := fl) wok.k wl1
  simp only [← hU] at hix hi1 hi2 hle
  have hUb : ∀ y ∈ U, 0 ≤ y ∧ y ≤ 99999 := fun y hy => try_bd hflb hto (by rw [← hU]; exact hy)
  have hsb := hUb _ (List.getElem_mem hix)
  have hixT : ix < T.length := by omega
  have cI : Ret Tryz.prog 56 [.slice (some ⟨nb H Kt, 0, none⟩) T.length T.length, .func (.func 57) #[] ⟨[.pointer (some ⟨nb H 0, 0, none⟩), .pointer (some ⟨nb H K9, 0, none⟩), .pointer (some ⟨nb H L.length, 0, none⟩)]⟩] (ext H H.fresh M2) (I ix) (ext H H.fresh M2) := by
    have hp : ∀ y ∈ U, ∀ H', Ext (ext H H.fresh M2) H' → Ret Tryz.prog 57 (I y :: [.pointer (some ⟨nb H 0, 0, none⟩), .pointer (some ⟨nb H K9, 0, none⟩), .pointer (some ⟨nb H L.length, 0, none⟩)]) H' (.bool (roomB t al (bkR x y))) H' := fun y hy H' hE' => by
      have hyb := hUb y hy
      exact serve1_c (d := al.length) (hs.ext ((ext_Ext hc).trans hE')) (by omega) (hsl.ext hE') (by omega) (hE' _ _ (ext_get_new m0)) (hE' _ _ (ext_get_new m9)) (hE' _ _ (ext_get_new mx)) (by omega)
    have := indexZ_c (c := T.length) (l := U) (p := fun y => roomB t al (bkR x y)) (slAt_map (ext_get_new hL2)) (by omega) hp
    rw [idxOf_at hix 0 hi2 hi1, Nat.zero_add, hUl] at this
    exact this
  apply ct_seq
  apply ct_region
  apply seq_plain; exact do_move rfl; exact rfl
  apply seq_plain; exact do_makeFunc rfl rfl; exact rfl
  apply seq_call (ht := rfl); exact cI; exact rfl
  clear cI hUb
  obtain ⟨sv, hsv⟩ : ∃ sv, sv = U[ix] := ⟨_, rfl⟩
  rw [← hsv] at hle hsb
  apply seq_plain; exact do_assign rfl; exact rfl
  apply seq_nil
  apply ct_seq
  apply ct_draw (by assumption); decide +kernel
  apply sd_plain (hfree := rfl); intro _; exact do_fieldAddr rfl rfl; exact rfl
  apply sd_look (hfree := rfl); exact do_load rfl (by exact ext_get_new (getApp (by assumption))) rfl (by exact rfl); exact rfl
  apply sd_plain (hfree := rfl); intro _; exact do_fieldAddr rfl rfl; exact rfl
  apply sd_look (hfree := rfl); exact do_load rfl (by exact ext_get_new (getApp (by assumption))) rfl (by exact rfl); exact rfl
  iterate 2 (apply sd_plain (hfree := rfl); intro _; exact do_move rfl; exact rfl)
  apply sd_plain (hfree := rfl); intro _; exact do_indexAddrS rfl rfl rfl (by exact idx_nat (by omega)); exact rfl
  apply sd_look (hfree := rfl); exact do_load rfl (by exact ext_get_new (getApp (by assumption))) rfl (by exact pt_map (by omega)); exact rfl
  iterate 2 (apply sd_plain (hfree := rfl); intro _; exact do_move rfl; exact rfl)
  apply sd_plain (hfree := rfl); intro _; exact do_indexAddrS rfl rfl rfl (by exact idx_nat (by omega)); exact rfl
  apply sd_look (hfree := rfl); exact do_load rfl (by exact ext_get_new (getApp (by assumption))) rfl (by exact pt_map (by omega)); exact rfl
  apply sd_plain (hfree := rfl); intro _; exact do_fieldAddr rfl rfl; exact rfl
  apply sd_look (hfree := rfl); exact do_load rfl (by exact ext_get_new (getApp (by assumption))) rfl (by exact rfl); exact rfl
  apply sd_plain (hfree := rfl); intro _; exact do_add rfl rfl (by omega); exact rfl
  apply sd_plain (hfree := rfl); intro _; exact do_build rfl rfl rfl rfl; exact rfl
  apply sd_newP (hfree := rfl); exact do_alloc rfl rfl; exact rfl
  apply sd_put (hfree := rfl) (hser := by decide +kernel) (hc := by assumption); rotate_left; exact do_store rfl rfl (by exact ext_get_new List.getElem?_concat_length) rfl rfl (nb_own _); rotate_left; exact (by simp)
  apply sd_nil
  simp only [List.nil_append, List.map_cons, List.map_nil, List.append_nil, List.length_nil, Nat.add_zero]
  rw [set_mid rfl]
  refine ct_to (l' := [(3, .pointer (some ⟨nb H 0, 0, none⟩)), (9, .pointer (some ⟨nb H K9, 0, none⟩)), (10, .map (some (nb H Km))), (11, vo), (13, .pointer (some ⟨nb H L.length, 0, none⟩)), (19, .pointer (some ⟨nb H M2.length, 0, none⟩)), (38, .slice (some ⟨bw, ow, none⟩) w.length e), (39, I w.length), (40, I out.length)]) (h' := ext H H.fresh (M2 ++ [some (.cells (bk (bkR x sv)) 0 false false)])) (by repeat (first | exact sub_nil | apply sub_cons rfl)) (by rw [hsv]; exact .refl _) ?_
  obtain ⟨M3, hM3⟩ : ∃ M3, M3 = M2 ++ [some (.cells (bk (bkR x sv)) 0 false false)] := ⟨_, rfl⟩
  have n0 : M3[0]? = some (some (.cells [.slice q t.length c] 0 false false)) := by rw [hM3]; exact getApp m0
  have n9 : M3[K9]? = some (some (.cells [.slice pa al.length al.length] 0 false false)) := by rw [hM3]; exact getApp m9
  have nm : M3[Km]? = some (some (pairM strV (fun n : Int => I n) ms)) := by rw [hM3]; exact getApp mm
  have nx : M3[L.length]? = some (some (.cells (rq x) 0 false false)) := by rw [hM3]; exact getApp mx
  have nb_ : M3[M2.length]? = some (some (.cells (bk (bkR x sv)) 0 false false)) := by rw [hM3]; exact List.getElem?_concat_length
  have hM3l : M3.length = M2.length + 1 := by rw [hM3]; simp
  have hAl3 : AllA H M3 4 bk Ka (.slice pa al.length al.length) al := by rw [hM3]; exact hAl2.app _
  have hou3 : out ≠ [] → M3[Ko]? = some (some (.cells (out.flatMap i1) 1 true false)) := fun hne => by
    rw [hM3]
    have := (hW.ko hne).2.2.2.2
    exact getApp (hst2.to (by omega) (hou1.at_ hne).2)
  rw [← hM3]
  clear hM3 m0 m9 mm mx hL2 hAl2 hAl1 hAl hsl hou1 hst2 c0 c9 cm cx b0 b9 bm hi1 hi2 hUl hUs hTl hU hixT
  have hle2 := hle
  rw [hflB, hal, hx] at hle2
  have hge := hle.ge
  rw [hflB] at hge
  iterate 2 (apply ct_seq)
  apply ct_region
  apply seq_plain; exact do_fieldAddr rfl rfl; exact rfl
  apply seq_plain; exact do_load rfl (by exact ext_get_new (by assumption)) rfl (by exact rfl); exact rfl
  apply seq_plain; exact do_binInt rfl rfl rfl trivial; exact rfl
  apply seq_nil
  refine ct_cond rfl (fun h5 => ?_) (fun h5 => ?_)
  · have h5 : sv + x.len > 99999 := by
      have h5 : decide (sv + x.len > 99999) = true := h5
      simpa using h5
    rw [hx] at h5
    obtain ⟨e1, e2⟩ := srv_late h1 h2 ⟨out, hW.sv, h3, sv, hle2, by omega⟩
    rw [e1, e2]
    apply ct_seq
    apply ct_region
    iterate 2 (apply seq_plain; exact do_assign rfl; exact rfl)
    apply seq_nil
    apply ct_ret
    exact fin_flat hc rfl rfl ⟨rfl, rfl⟩
  have h5 : sv + x.len ≤ 99999 := by
    have h5 : decide (sv + x.len > 99999) = false := h5
    simp only [decide_eq_false_iff_not] at h5; omega
  have k1 := hW.k9
  obtain ⟨k2, k3⟩ := hW.k9m
  have k4 := hW.ka0
  have k5 := hW.ka9
  have k6 := hW.kam
  have k7 := hW.kaL
  apply ct_skip
  apply ct_seq
  refine ct_drawG [K9, Ka, M3.length, M3.length + 1] hc (by decide +kernel) ?_
  refine sg_free rfl rfl (fun _ => do_move rfl) rfl ?_
  refine sg_free rfl rfl (fun _ => do_fieldAddr rfl rfl) rfl ?_
  refine sg_off hc rfl rfl rfl (do_load rfl (ext_get_new (maskK_at nx (not_in4 ⟨by omega, by omega, by omega, by omega⟩))) rfl rfl) rfl ?_
  refine sg_look rfl rfl rfl (do_load rfl (ext_get_new n9) rfl rfl) rfl ?_
  refine sg_look rfl rfl rfl (do_load rfl (ext_get_new nb_) rfl rfl) rfl ?_
  refine sg_newS hc rfl rfl rfl (by simp) (do_buildSlice rfl rfl rfl rfl rfl rfl rfl) rfl ?_
  refine sg_growA (xs := [bkR x sv]) hc (hAl3.app _) (fun _ => rfl) (fun _ => rfl) rfl rfl rfl rfl rfl rfl (ext_get_new List.getElem?_concat_length) rfl (by simp) (Nat.le_trans (Nat.mul_le_mul_right _ (by simp only [List.length_cons, List.length_nil]; omega : _ ≤ 3000000000)) (Nat.le_of_ble_eq_true rfl)) (Nat.ne_of_beq_eq_false rfl) (Nat.ne_of_beq_eq_false rfl) rfl (by decide +kernel) (by decide +kernel) rfl (by simp) (by simp) (fun M4 hX4 hst4 hlen4 => ?_)
  have e1 : ∀ y : Option ABlk, (M3 ++ [y]).length = M3.length + 1 := fun y => by simp
  rw [e1] at hX4 hlen4 ⊢
  have p : ∀ j, j < M3.length → j ≠ Ka → M4[j]? = M3[j]? := fun j hj hjk => by
    rw [hst4 j (by rw [e1]; omega) hjk, List.getElem?_append_left hj]
  clear hst4
  have q0 : M4[0]? = some (some (.cells [.slice q t.length c] 0 false false)) := by rw [p 0 (by omega) (by omega)]; exact n0
  have q9 : M4[K9]? = some (some (.cells [.slice pa al.length al.length] 0 false false)) := by rw [p K9 (by omega) (by omega)]; exact n9
  have qm : M4[Km]? = some (some (pairM strV (fun n : Int => I n) ms)) := by rw [p Km (by omega) (by omega)]; exact nm
  have qb : M4[M2.length]? = some (some (.cells (bk (bkR x sv)) 0 false false)) := by rw [p _ (by omega) (by omega)]; exact nb_
  have qo : out ≠ [] → M4[Ko]? = some (some (.cells (out.flatMap i1) 1 true false)) := fun hne => by
    have := hW.ko hne
    rw [p _ (by omega) (by omega)]; exact hou3 hne
  clear p n0 n9 nm nx nb_ hou3 hAl3
  refine sg_free rfl rfl (fun _ => do_fieldAddr rfl rfl) rfl ?_
  refine sg_off hc rfl rfl rfl (do_load rfl (ext_get_new (maskK_at qb (not_in4 ⟨by omega, by omega, by omega, by omega⟩))) rfl rfl) rfl ?_
  refine sg_turn0 (k := K9) hc rfl (by decide +kernel) (by decide +kernel) rfl (by simp) q9 (do_store rfl rfl (ext_get_new q9) rfl rfl (nb_own _)) ?_
  obtain ⟨M5, hM5⟩ : ∃ M5, M5 = M4.set K9 (some (.cells [.slice (some ⟨nb H (M3.length + 1), 0, none⟩) (al ++ [bkR x sv]).length (al ++ [bkR x sv]).length] 0 false false)) := ⟨_, rfl⟩
  have r9 : M5[K9]? = some (some (.cells [.slice (some ⟨nb H (M3.length + 1), 0, none⟩) (al ++ [bkR x sv]).length (al ++ [bkR x sv]).length] 0 false false)) := by rw [hM5]; exact List.getElem?_set_self (by omega)
  have rr : ∀ j, j ≠ K9 → M5[j]? = M4[j]? := fun j hj => by rw [hM5, List.getElem?_set_ne (fun e => hj e.symm)]
  have hM5l : M5.length = M4.length := by rw [hM5, List.length_set]
  refine sg_ho fun _ => ?_
  rw [← hM5]
  refine sg_ser0 (k' := Km) hc rfl (by decide +kernel) (by omega) (do_pairPut (f := strV) (g := fun n : Int => I n) (ks := ms) (a := x.kind) (b := sv) rfl rfl rfl (ext_get_new (by rw [rr _ (by omega)]; exact qm)) rfl keyStr (nb_own _)) ?_
  obtain ⟨M6, hM6⟩ : ∃ M6, M6 = M5.set Km (some (pairM strV (fun n : Int => I n) (putK ms x.kind sv))) := ⟨_, rfl⟩
  have s6 : ∀ j, j ≠ Km → M6[j]? = M5[j]? := fun j hj => by rw [hM6, List.getElem?_set_ne (fun e => hj e.symm)]
  have s0 : M6[0]? = some (some (.cells [.slice q t.length c] 0 false false)) := by rw [s6 _ (by omega), rr _ (by omega)]; exact q0
  have s9 := (s6 K9 (by omega)).trans r9
  have sm : M6[Km]? = some (some (pairM strV (fun n : Int => I n) (putK ms x.kind sv))) := by rw [hM6]; exact List.getElem?_set_self (by omega)
  have sb : M6[M2.length]? = some (some (.cells (bk (bkR x sv)) 0 false false)) := by rw [s6 _ (by omega), rr _ (by omega)]; exact qb
  have so : LstI H M6 1 i1 Ko vo out := hW.ou.keep fun hne => by
    have := hW.ko hne
    rw [s6 _ (by omega), rr _ (by omega), qo hne]
    exact (hW.ou.at_ hne).2.symm
  have sX : LstX H M6 4 bk (M3.length + 1) (al ++ [bkR x sv]) := by
    obtain ⟨sb, h⟩ := hX4.out
    exact ⟨sb, by rw [s6 _ (by omega), rr _ (by omega)]; exact h⟩
  have hM6l : M6.length = M4.length := by rw [hM6, List.length_set, hM5l]
  rw [← hM6]
  apply sd_nil
  simp only [List.map_nil, List.append_nil]
  clear s6 rr hM6 hM5 hX4 q0 q9 qm qb qo r9
  apply ct_region
  apply seq_plain; exact do_move rfl; exact rfl
  apply seq_plain; exact do_fieldAddr rfl rfl; exact rfl
  apply seq_plain; exact do_load rfl (by exact ext_get_new (by assumption)) rfl (by exact rfl); exact rfl
  apply seq_newS; exact do_buildSlice rfl rfl rfl rfl rfl rfl rfl; exact rfl
  refine seq_growI (xs := [sv]) hc (so.keeps (.app _)) (fun _ => rfl) (fun _ => rfl) rfl rfl rfl rfl rfl rfl (ext_get_new List.getElem?_concat_length) rfl (by simp) ?_ (Nat.ne_of_beq_eq_false rfl) (Nat.ne_of_beq_eq_false rfl) rfl (fun v' L7 hv' hst7 hlen7 => ?_)
  · exact Nat.le_trans (Nat.mul_le_mul_right _ (by simp only [List.length_cons, List.length_nil]; omega : _ ≤ 3000000000)) (Nat.le_of_ble_eq_true rfl)
  have e2 : ∀ y : Option ABlk, (M6 ++ [y]).length = M6.length + 1 := fun y => by simp
  have e3 : (out ++ [sv]).length = out.length + 1 := by simp
  have pp : ∀ j, j < M6.length → (out ≠ [] → j ≠ Ko) → L7[j]? = M6[j]? := fun j hj hjk => by
    rw [hst7 j (by rw [e2]; omega) hjk, List.getElem?_append_left hj]
  have ab : allB l w (out ++ [sv]) (out ++ [sv]).length = al ++ [bkR x sv] := by rw [e3, allB_snoc h3, ← hal, ← hx]
  have hnew : ∀ K, LstI H L7 1 i1 K v' (out ++ [sv]) → SvW H q c K9 Km t l w (out ++ [sv]) (putK ms x.kind sv) L7 (M3.length + 1) (.slice (some ⟨nb H (M3.length + 1), 0, none⟩) (al ++ [bkR x sv]).length (al ++ [bkR x sv]).length) K v' := fun K hv' => by
    refine ⟨?_, ?_, k1, ?_, ⟨.inr ⟨?_, ?_⟩⟩, hv', ?_, ?_, by omega, by omega, by omega, by rw [hlen7, e2]; omega⟩
    · rw [pp 0 (by omega) fun hne => (hW.ko hne).1.symm]; exact s0
    · rw [pp K9 (by omega) fun hne => (hW.ko hne).2.1.symm]; exact s9
    · rw [pp Km (by omega) fun hne => (hW.ko hne).2.2.1.symm]; exact sm
    · rw [ab]
    · rw [ab]
      obtain ⟨sb, h⟩ := sX.out
      exact ⟨sb, by rw [pp _ (by omega) fun hne => by have := (hW.ko hne).2.2.2.2; omega]; exact h⟩
    · exact hW.sv.snoc h3 hle2 (by rw [← hx]; exact h5)
    · rw [e3, hx]
      exact hW.msPut h3 hwo (by rw [← hx]; exact hge)
  apply seq_plain; exact do_assign rfl; exact rfl
  apply seq_nil
  apply ct_region
  apply seq_plain; exact do_succ rfl (by omega); exact rfl
  apply seq_plain; exact do_move rfl; exact rfl
  apply seq_nil
  exact lt_to (by rw [e3]; repeat (first | exact sub_nil | apply sub_cons rfl)) (.refl _) (ih' _ _ _ _ _ _ _ (by omega) (by omega) (hnew _ hv'))
end Go.Proofs.YtfjihdlpohljbaaGreat
