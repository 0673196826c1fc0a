/- TopNapSeason: the law's own walk. -/
import Derived.Test.YtppflopinmkpgaaDoorSeL
import Derived.Test.YtppflopinmkpgaaDoorTcK
import Derived.Test.YtppflopinmkpgaaDoorTiH
import Derived.Test.YtppflopinmkpgaaDoorEnA
noncomputable section
namespace Go.Proofs.YtppflopinmkpgaaDoor
open Go Go.Den Go.Den.Title
set_option maxRecDepth 100000

theorem do_convU {P : Program} {l : EL} {h : AHeap} {s d : TypeId} {x : Operand} {a : Nat} (hx : ev l x = some (.int .u8 (a : Int))) (ha : a < 256) (hs : (szOf P s).isSome = true) (hd : intOf P d = some .i64) : Does P l (.convert s d x) h (.int .i64 (a : Int)) h := by
  have := do_convInt (P := P) (h := h) (d := d) hx hs hd
  rw [wrap_i64 (by omega)] at this
  exact this
abbrev gu (x : Fin 256) : Value := .int .u8 ((x.val : Nat) : Int)
abbrev u1 (x : Fin 256) : List Value := [gu x]
theorem u1_len (x : Fin 256) : (u1 x).length = 1 := rfl
set_option maxHeartbeats 16000000 in
theorem season_w {H : AHeap} {q : Option Addr} {c : Nat} {n : Int} {sc : List (Fin 256)} {out : Fin 256} (haw : ∀ h, Ext H h → Ret Tryd.prog 5 [] h (.bool true) h) (hs : SlAt H 1 u1 q sc) (hG : H.get 1 = some (.cells cs0 0 false true)) :
    Ret Tryd.prog 3 [I n, .slice q sc.length c, .int .u8 ((out.val : Nat) : Int)] H (.bool true) H := by
  refine fn_start Tryd.func3 rfl rfl rfl fun hc => ?_
  apply ct_seq
  apply ct_region
  apply seq_plain; exact do_assign rfl; exact rfl
  apply seq_nil
  apply ct_seq
  apply ct_seq
  apply ct_region
  apply seq_plain; exact do_move rfl; exact rfl
  apply seq_plain; exact do_binInt rfl rfl rfl trivial; exact rfl
  apply seq_plain; exact do_move rfl; exact rfl
  have hT : ∃ T : Bool, T = (decide (n < 2) || (decide (n > 6) || decide ((sc.length : Int) > 40))) := ⟨_, rfl⟩
  obtain ⟨T, hT⟩ := hT
  refine seq_J [(0, I n), (1, .slice q sc.length c), (2, .int .u8 ((out.val : Nat) : Int)), (44, .bool T)] (ds := []) (h := ext H H.fresh []) ?_ ?_
  · refine seq_gsplit rfl rfl (fun u0 => ?_) (fun u0 => ?_)
    · have u0 : decide (n < 2) = true := u0
      have e : T = true := by rw [hT, u0]; rfl
      rw [e]
      apply seq_passed (hd := rfl) (hl := rfl) (hb := rfl); exact rfl
      apply seq_passed (hd := rfl) (hl := rfl) (hb := rfl); exact rfl
      apply seq_plain; exact do_pick_t rfl rfl; exact rfl
      apply seq_plain; exact do_move rfl; exact rfl
      apply seq_passed (hd := rfl) (hl := rfl) (hb := rfl); exact rfl
      apply seq_passed (hd := rfl) (hl := rfl) (hb := rfl); exact rfl
      apply seq_passed (hd := rfl) (hl := rfl) (hb := rfl); exact rfl
      apply seq_plain; exact do_pick_t rfl rfl; exact rfl
      apply seq_nil
      exact jp_of (by repeat (first | exact sub_nil | apply sub_cons rfl))
    · have u0 : decide (n < 2) = false := u0
      apply seq_guard (hd := rfl) (hl := rfl); exact do_move rfl; exact rfl
      apply seq_guard (hd := rfl) (hl := rfl); exact do_binInt rfl rfl rfl trivial; exact rfl
      apply seq_plain; exact do_pick_f rfl rfl; exact rfl
      apply seq_plain; exact do_move rfl; exact rfl
      refine seq_gsplit rfl rfl (fun u1 => ?_) (fun u1 => ?_)
      · have u1 : decide (n > 6) = true := u1
        have e : T = true := by rw [hT, u0, u1]; rfl
        rw [e]
        apply seq_passed (hd := rfl) (hl := rfl) (hb := rfl); exact rfl
        apply seq_passed (hd := rfl) (hl := rfl) (hb := rfl); exact rfl
        apply seq_passed (hd := rfl) (hl := rfl) (hb := rfl); exact rfl
        apply seq_plain; exact do_pick_t rfl rfl; exact rfl
        apply seq_nil
        exact jp_of (by repeat (first | exact sub_nil | apply sub_cons rfl))
      · have u1 : decide (n > 6) = false := u1
        have e : T = decide ((sc.length : Int) > 40) := by rw [hT, u0, u1]; rfl
        rw [e]
        apply seq_guard (hd := rfl) (hl := rfl); exact do_move rfl; exact rfl
        apply seq_guard (hd := rfl) (hl := rfl); exact do_lenS rfl rfl rfl; exact rfl
        apply seq_guard (hd := rfl) (hl := rfl); exact do_binInt rfl rfl rfl trivial; exact rfl
        apply seq_plain; exact do_pick_f rfl rfl; exact rfl
        apply seq_nil
        exact jp_of (by repeat (first | exact sub_nil | apply sub_cons rfl))
  skip
  refine ct_cond rfl (fun h1 => ?_) (fun h1 => ?_)
  · apply ct_seq
    apply ct_region
    apply seq_call (ht := rfl); exact haw _ (ext_Ext hc); exact rfl
    apply seq_plain; exact do_assign rfl; exact rfl
    apply seq_nil
    apply ct_ret
    exact fin_flat hc rfl rfl ⟨rfl, rfl⟩
  have hn : 2 ≤ n ∧ n ≤ 6 ∧ sc.length ≤ 40 := by
    rw [h1] at hT
    have hT := hT.symm
    simp only [Bool.or_eq_false_iff, decide_eq_false_iff_not] at hT
    omega
  clear hT
  obtain ⟨hn2, hn6, hsl⟩ := hn
  obtain ⟨n, rfl⟩ : ∃ m : Nat, n = (m : Int) := ⟨n.toNat, by omega⟩
  have h2 : 2 ≤ n := by omega
  have h6 : n ≤ 6 := by omega
  have hd := okD_of h2 h6
  have hgl : (genD n).length = n * (n - 1) := by rw [← hd.len]; simp [dirD]
  have hgl30 : (genD n).length ≤ 30 := by rw [hgl]; exact Nat.le_trans (Nat.mul_le_mul h6 (Nat.sub_le_sub_right h6 1)) (by decide)
  have hgl2 : 0 < (genD n).length := by rw [hgl]; exact Nat.mul_pos (by omega) (by omega)
  have hM := chk_sub (sc := sc) h2 h6 (.refl _)
  have cD := double_c (H := ext H H.fresh []) h2 (by omega : n ≤ 24)
  rw [lstH_ext, ext_fresh] at cD
  apply ct_skip
  refine ct_to (l' := [(0, I n), (1, .slice q sc.length c), (2, .int .u8 ((out.val : Nat) : Int))]) (by repeat (first | exact sub_nil | apply sub_cons rfl)) (.refl _) ?_
  clear T h1 hn2 hn6
  obtain ⟨g0, gr, eg⟩ : ∃ a r, genD n = a :: r := by
    cases e : genD n with
    | nil => rw [e] at hgl2; simp at hgl2
    | cons a r => exact ⟨a, r, rfl⟩
  have eV : ∀ b, lstV b (genD n) = .slice (some ⟨b, 0, none⟩) (genD n).length (genD n).length := fun b => by rw [eg]; rfl
  have eL : lstL 3 fx (genD n) = [some (.cells ((genD n).flatMap fx) 3 true false)] := by rw [eg]; rfl
  rw [eV, eL] at cD
  clear eg g0 gr eV eL
  have hmul : (n : Int) * ((n - 1 : Nat) : Int) = ((genD n).length : Int) := by rw [hgl]; push_cast; rfl
  have hmb : -9223372036854775808 ≤ (n : Int) * ((n - 1 : Nat) : Int) ∧ (n : Int) * ((n - 1 : Nat) : Int) ≤ 9223372036854775807 := by rw [hmul]; omega
  have hne0 : (((genD n).length : Int) != (n : Int) * ((n - 1 : Nat) : Int)) = false := by rw [hmul]; simp
  apply ct_seq
  apply ct_region
  apply seq_plain; exact do_move rfl; exact rfl
  apply seq_call (ht := rfl); exact cD; exact rfl
  apply seq_plain; exact do_move rfl; exact rfl
  apply seq_plain; exact do_extract rfl rfl; exact rfl
  apply seq_plain; exact do_extract rfl rfl; exact rfl
  apply seq_plain; exact do_assign rfl; exact rfl
  apply seq_plain; exact do_assign rfl; exact rfl
  apply seq_nil
  apply ct_seq
  apply ct_seq
  apply ct_region
  apply seq_plain; exact do_move rfl; exact rfl
  apply seq_plain; exact do_binInt rfl rfl rfl trivial; exact rfl
  apply seq_plain; exact do_move rfl; exact rfl
  apply seq_guard (hd := rfl) (hl := rfl); exact do_move rfl; exact rfl
  apply seq_guard (hd := rfl) (hl := rfl); exact do_lenS rfl rfl rfl; exact rfl
  apply seq_guard (hd := rfl) (hl := rfl); exact do_move rfl; exact rfl
  apply seq_guard (hd := rfl) (hl := rfl); exact do_move rfl; exact rfl
  apply seq_guard (hd := rfl) (hl := rfl); exact do_predN rfl rfl (by omega) (by omega); exact rfl
  apply seq_guard (hd := rfl) (hl := rfl); exact do_mul rfl rfl (by assumption); exact rfl
  apply seq_guard (hd := rfl) (hl := rfl); exact do_binInt rfl rfl rfl trivial; exact rfl
  apply seq_plain; exact do_pick_f rfl rfl; exact rfl
  apply seq_nil
  rw [hne0]
  refine ct_cond_f rfl rfl ?_
  apply ct_skip
  apply ct_seq
  apply ct_region
  apply seq_plain; exact do_assign rfl; exact rfl
  apply seq_nil
  apply ct_seq
  apply ct_region
  apply seq_plain; exact do_assign rfl; exact rfl
  apply seq_nil
  apply ct_seq
  apply ct_seq
  apply ct_region
  apply seq_plain; exact do_move rfl; exact rfl
  apply seq_plain; exact do_lenS rfl rfl rfl; exact rfl
  apply seq_plain; exact do_move rfl; exact rfl
  apply seq_nil
  apply ct_block
  apply ct_loop
  refine lt_meas (α := Nat × Value × List (Option ABlk)) (fun a => [(0, I n), (1, .slice q sc.length c), (2, .int .u8 ((out.val : Nat) : Int)), (9, a.2.1), (10, I (evenN' ((lstS n sc).take a.1))), (62, .slice (some ⟨nb H 0, 0, none⟩) (genD n).length (genD n).length), (63, I (genD n).length), (64, I a.1)]) (fun a => ext H H.fresh a.2.2)
    (fun a => a.1 ≤ (genD n).length ∧ a.2.2[0]? = some (some (.cells ((genD n).flatMap fx) 3 true false)) ∧ Lst H a.2.2 5 mt 1 a.2.1 ((lstS n sc).take a.1)) (fun a => (genD n).length - a.1) (fun a ha ih => ?_) (0, .slice none 0 0, [some (.cells ((genD n).flatMap fx) 3 true false)]) ⟨by simp, rfl, .nil⟩ (by repeat (first | exact sub_nil | apply sub_cons rfl)) (.refl _)
  obtain ⟨i, v, L⟩ := a
  obtain ⟨hi, hL0, hv⟩ := ha
  simp only at hi hL0 hv ih ⊢
  have ih' := fun i' v' L' a1 a2 a3 a4 => ih (i', v', L') a1 ⟨a2, a3, a4⟩
  simp only at ih'
  clear ih
  have hLl : 0 < L.length := (List.getElem?_eq_some_iff.1 hL0).1
  apply ct_seq
  apply ct_region
  apply seq_plain; exact do_binInt rfl rfl rfl trivial; exact rfl
  apply seq_nil
  apply ct_seq
  refine ct_cond rfl (fun h1 => ?_) (fun h1 => ?_)
  · simp only [decide_eq_true_eq, Int.ofNat_lt] at h1
    have hml : (lstS n sc).length = (genD n).length := lstS_len
    have hmi : (lstS n sc)[i]'(by omega) = maS sc i (genD n)[i] := lstS_get h1
    apply ct_skip
    apply ct_seq
    apply ct_block
    apply ct_seq
    apply ct_region
    apply seq_plain; exact do_move rfl; exact rfl
    apply seq_plain; exact do_indexAddrS rfl rfl rfl (by exact idx_nat (by omega)); exact rfl
    apply seq_plain; exact do_load rfl (by exact ext_get_new (by assumption)) rfl (by exact pt_flat fx_len (by omega)); exact rfl
    apply seq_newP; exact do_alloc rfl rfl; exact rfl
    apply seq_plain; exact do_assign rfl; exact rfl
    apply seq_putC (hc := by assumption); rotate_left; exact do_store rfl rfl (by exact ext_get_new List.getElem?_concat_length) rfl rfl (nb_own _); rotate_left; exact (by simp)
    apply ct_seq
    apply ct_region
    apply seq_plain; exact do_fieldAddr rfl rfl; exact rfl
    apply seq_plain; exact do_load rfl (by exact ext_get_new getSetLast) rfl (by exact rfl); exact rfl
    apply seq_plain; exact do_fieldAddr rfl rfl; exact rfl
    apply seq_plain; exact do_load rfl (by exact ext_get_new getSetLast) rfl (by exact rfl); exact rfl
    apply seq_plain; exact do_build rfl rfl rfl rfl; exact rfl
    apply seq_newP; exact do_alloc rfl rfl; exact rfl
    apply seq_putC (hc := by assumption); rotate_left; exact do_store rfl rfl (by exact ext_get_new List.getElem?_concat_length) rfl rfl (nb_own _); rotate_left; exact (by simp)
    apply ct_seq
    apply ct_seq
    apply ct_region
    apply seq_plain; exact do_move rfl; exact rfl
    apply seq_plain; exact do_lenS rfl rfl rfl; exact rfl
    apply seq_plain; exact do_binInt rfl rfl rfl trivial; exact rfl
    apply seq_nil
    rw [set_mid rfl, set_mid rfl]
    obtain ⟨M, hM'⟩ : ∃ M : List (Option ABlk), M = L ++ [some (.cells [I (genD n)[i].day, I (genD n)[i].home, I (genD n)[i].away] 0 false false)] := ⟨_, rfl⟩
    have hM0 : M[0]? = some (some (.cells ((genD n).flatMap fx) 3 true false)) := by rw [hM']; exact getApp hL0
    have hMv : Lst H M 5 mt 1 v ((lstS n sc).take i) := by rw [hM']; exact hv.app _
    have hMl : M.length = L.length + 1 := by rw [hM']; simp
    rw [← hM']
    clear hv hL0
    refine ct_J [(0, I n), (1, .slice q sc.length c), (2, .int .u8 ((out.val : Nat) : Int)), (9, v), (10, I (evenN' ((lstS n sc).take i))), (13, .pointer (some ⟨nb H M.length, 0, none⟩)), (62, .slice (some ⟨nb H 0, 0, none⟩) (genD n).length (genD n).length), (63, I (genD n).length), (64, I i)] (ds := []) (h := ext H H.fresh (M ++ [some (.cells (mt (maS sc i (genD n)[i])) 0 false false)])) ?_ ?_
    · refine ct_cond rfl (fun h3 => ?_) (fun h3 => ?_)
      · have h3 : 0 < sc.length := by simp at h3; omega
        have hmod : i % sc.length < sc.length := Nat.mod_lt _ h3
        have hes : scS sc i = sc[i % sc.length].val + i / sc.length := by simp [scS, List.getElem?_eq_getElem hmod]
        have hdv : i / sc.length ≤ i := Nat.div_le_self ..
        have hx := sc[i % sc.length].isLt
        obtain ⟨b, o, cs, z, s, ro, rfl, hg, hw⟩ := hs.out (by intro e; rw [e] at h3; simp at h3)
        have hem : mt (maS sc i (genD n)[i]) = [I (genD n)[i].home, I (genD n)[i].away, I ((scS sc i % 4 : Nat) : Int), I ((scS sc i / 4 % 4 : Nat) : Int), .string kPlayed] := rfl
        apply ct_seq
        apply ct_draw (by assumption); decide +kernel
        apply sd_plain (hfree := rfl); intro _; exact do_move rfl; exact rfl
        apply sd_plain (hfree := rfl); intro _; exact do_move rfl; exact rfl
        apply sd_plain (hfree := rfl); intro _; exact do_move rfl; exact rfl
        apply sd_look (hfree := rfl); exact do_lenS rfl rfl rfl; exact rfl
        apply sd_plain (hfree := rfl); intro _; exact do_remN rfl rfl (by omega); exact rfl
        apply sd_plain (hfree := rfl); intro _; exact do_indexAddrS rfl rfl rfl (by exact idx_nat (by omega)); exact rfl
        apply sd_look (hfree := rfl); exact do_load rfl (by exact ext_get_old (by assumption) (by assumption)) rfl (by exact pt_sl0 (by assumption) (by omega)); exact rfl
        apply sd_look (hfree := rfl); exact do_convU rfl (by omega) rfl rfl; exact rfl
        apply sd_plain (hfree := rfl); intro _; exact do_move rfl; exact rfl
        apply sd_plain (hfree := rfl); intro _; exact do_move rfl; exact rfl
        apply sd_look (hfree := rfl); exact do_lenS rfl rfl rfl; exact rfl
        apply sd_plain (hfree := rfl); intro _; exact do_quo rfl rfl (by omega) (by omega); exact rfl
        apply sd_plain (hfree := rfl); intro _; exact do_add rfl rfl (by omega); exact rfl
        apply sd_plain (hfree := rfl); intro _; exact do_assign rfl; exact rfl
        apply sd_nil
        apply ct_region
        apply seq_plain; exact do_move rfl; exact rfl
        apply seq_plain; exact do_remN rfl rfl (by decide); exact rfl
        apply seq_plain; exact do_move rfl; exact rfl
        apply seq_plain; exact do_quo rfl rfl (by omega) (by decide); exact rfl
        apply seq_plain; exact do_remN rfl rfl (by decide); exact rfl
        apply seq_plain; exact do_fieldAddr rfl rfl; exact rfl
        simp only [← hes, List.map_nil, List.append_nil]
        apply seq_put (hc := by assumption); rotate_left; exact do_store rfl rfl (by exact ext_get_new List.getElem?_concat_length) rfl rfl (nb_own _); rotate_left; exact (by simp)
        apply seq_plain; exact do_fieldAddr rfl rfl; exact rfl
        rw [set_mid rfl]
        skip
        rw [hem]
        exact seq_putJ (k := M.length) hc (by simp) (do_store rfl rfl (ext_get_new List.getElem?_concat_length) rfl rfl (nb_own _)) (set_mid rfl) (by repeat (first | exact sub_nil | apply sub_cons rfl))
      · have h3 : sc.length = 0 := by simp only [decide_eq_false_iff_not] at h3; omega
        have hes : scS sc i = 0 := by
          have : sc = [] := List.length_eq_zero_iff.1 h3
          simp [scS, this]
        have hem : mt (maS sc i (genD n)[i]) = [I (genD n)[i].home, I (genD n)[i].away, I 0, I 0, .string kPlayed] := by simp [mt, maS, hes]
        rw [hem]
        apply ct_skip
        exact jp_of (by repeat (first | exact sub_nil | apply sub_cons rfl))
    have hsn : (lstS n sc).take (i + 1) = (lstS n sc).take i ++ [maS sc i (genD n)[i]] := by rw [take_snoc (by omega : i < (lstS n sc).length), hmi]
    have hevn : evenN' ((lstS n sc).take (i + 1)) = evenN' ((lstS n sc).take i) + if evenM (maS sc i (genD n)[i]) = true then 1 else 0 := by
      rw [hsn]
      unfold evenN'
      rw [List.filter_append, List.length_append]
      cases he : evenM (maS sc i (genD n)[i]) <;> simp [List.filter_cons, he]
    have hevl : evenN' ((lstS n sc).take i) ≤ 30 := by
      unfold evenN'
      exact Nat.le_trans (List.length_filter_le _ _) (by rw [List.length_take]; omega)
    apply ct_seq
    apply ct_seq
    apply ct_region
    apply seq_plain; exact do_fieldAddr rfl rfl; exact rfl
    apply seq_plain; exact do_load rfl (by exact ext_get_new List.getElem?_concat_length) rfl (by exact rfl); exact rfl
    apply seq_plain; exact do_fieldAddr rfl rfl; exact rfl
    apply seq_plain; exact do_load rfl (by exact ext_get_new List.getElem?_concat_length) rfl (by exact rfl); exact rfl
    apply seq_plain; exact do_binInt rfl rfl rfl trivial; exact rfl
    apply seq_nil
    refine ct_J [(0, I n), (1, .slice q sc.length c), (2, .int .u8 ((out.val : Nat) : Int)), (9, v), (10, I (evenN' ((lstS n sc).take (i + 1)))), (13, .pointer (some ⟨nb H M.length, 0, none⟩)), (62, .slice (some ⟨nb H 0, 0, none⟩) (genD n).length (genD n).length), (63, I (genD n).length), (64, I i)] (ds := []) (h := ext H H.fresh (M ++ [some (.cells (mt (maS sc i (genD n)[i])) 0 false false)])) ?_ ?_
    · refine ct_cond rfl (fun h4 => ?_) (fun h4 => ?_)
      · have h4 : evenM (maS sc i (genD n)[i]) = true := h4
        rw [if_pos h4] at hevn
        rw [hevn]
        apply ct_region
        apply seq_plain; exact do_move rfl; exact rfl
        apply seq_plain; exact do_succ rfl (by omega); exact rfl
        apply seq_plain; exact do_assign rfl; exact rfl
        apply seq_nil
        exact jp_of (by repeat (first | exact sub_nil | apply sub_cons rfl))
      · have h4 : evenM (maS sc i (genD n)[i]) = false := h4
        rw [if_neg (by rw [h4]; simp)] at hevn
        rw [hevn]
        apply ct_skip
        exact jp_of (by repeat (first | exact sub_nil | apply sub_cons rfl))
    apply ct_region
    apply seq_plain; exact do_move rfl; exact rfl
    apply seq_plain; exact do_load rfl (by exact ext_get_new List.getElem?_concat_length) rfl (by exact rfl); exact rfl
    apply seq_newS; exact do_buildSlice rfl rfl rfl rfl rfl rfl rfl; exact rfl
    refine seq_grow (xs := [maS sc i (genD n)[i]]) hc ((hMv.app _).app _) (by simp) mt_len (fun _ => rfl) rfl rfl rfl rfl rfl rfl (ext_get_new List.getElem?_concat_length) rfl (by simp) ?_ (Nat.ne_of_beq_eq_false rfl) (Nat.ne_of_beq_eq_false rfl) rfl (fun v' L3 hv' hst3 hlen3 => ?_)
    · exact Nat.le_trans (Nat.mul_le_mul_right _ (by simp only [List.length_cons, List.length_nil, List.length_take]; omega : _ ≤ 3000000000)) (Nat.le_of_ble_eq_true rfl)
    apply seq_plain; exact do_assign rfl; exact rfl
    apply seq_nil
    apply ct_region
    apply seq_plain; exact do_succ rfl (by omega); exact rfl
    apply seq_plain; exact do_move rfl; exact rfl
    apply seq_nil
    refine lt_to (by repeat (first | exact sub_nil | apply sub_cons rfl)) (.refl _) (ih' (i + 1) v' L3 (by omega) (by omega) (hst3.to (by omega) (getApp (getApp hM0))) (by rw [hsn]; exact hv'))
  have h1 : i = (genD n).length := by simp at h1; omega
  subst h1
  clear ih'
  have hox := out.isLt
  have hlen : (lstS n sc).length = (genD n).length := lstS_len
  rw [List.take_of_length_le (by omega)] at hv ⊢
  have hlne : lstS n sc ≠ [] := by intro e; rw [e] at hlen; simp at hlen; omega
  obtain ⟨k, hk1, rfl, hLk⟩ := (hv.out.resolve_left fun h => hlne h.1).2
  clear hv
  obtain ⟨g, hg⟩ : ∃ g, g = out.val % n := ⟨_, rfl⟩
  have hgn : g < n := by rw [hg]; exact Nat.mod_lt _ (by omega)
  apply ct_exit
  apply exit_eq; exact rfl
  apply ct_seq
  apply ct_region
  apply seq_plain; exact do_build rfl rfl rfl rfl; exact rfl
  apply seq_newP; exact do_alloc rfl rfl; exact rfl
  apply seq_putC (hc := by assumption); rotate_left; exact do_store rfl rfl (by exact ext_get_new List.getElem?_concat_length) rfl rfl (nb_own _); rotate_left; exact (by simp)
  apply ct_seq
  apply ct_region
  apply seq_plain; exact do_move rfl; exact rfl
  apply seq_plain; exact do_move rfl; exact rfl
  apply seq_plain; exact do_load rfl (by exact ext_get_new getSetLast) rfl (by exact rfl); exact rfl
  have cT := table_c (H := ext H H.fresh (L ++ [some (.cells (ruL ruS) 0 false false)])) (c := (lstS n sc).length) (slAt_flat mt_len (ext_get_new (getApp hLk))) (ext_get_old hc hG) hM ruS_ok (by omega)
  rw [ext_add, ext_fresh] at cT
  rw [set_mid rfl]
  apply seq_call (ht := rfl); exact cT; exact rfl
  apply seq_plain; exact do_move rfl; exact rfl
  apply seq_plain; exact do_extract rfl rfl; exact rfl
  apply seq_plain; exact do_extract rfl rfl; exact rfl
  apply seq_plain; exact do_assign rfl; exact rfl
  apply seq_plain; exact do_assign rfl; exact rfl
  apply seq_nil
  apply ct_seq
  apply ct_region
  apply seq_plain; exact do_move rfl; exact rfl
  apply seq_plain; exact do_convU rfl (by omega) rfl rfl; exact rfl
  apply seq_plain; exact do_move rfl; exact rfl
  apply seq_plain; exact do_remN rfl rfl (by omega); exact rfl
  apply seq_plain; exact do_assign rfl; exact rfl
  apply seq_nil
  apply ct_seq
  apply ct_region
  apply seq_plain; exact do_move rfl; exact rfl
  apply seq_plain; exact do_move rfl; exact rfl
  apply seq_plain; exact do_move rfl; exact rfl
  apply seq_newS; exact do_buildSlice rfl rfl rfl rfl rfl rfl rfl; exact rfl
  rw [← hg]
  skip
  obtain ⟨kT, hkT⟩ : ∃ kT, kT = (L ++ [some (ABlk.cells (ruL ruS) 0 false false)]).length := ⟨_, rfl⟩
  obtain ⟨kG, hkG⟩ : ∃ kG, kG = (L ++ [some (ABlk.cells (ruL ruS) 0 false false)] ++ [some (rwB (tableL ruS n (lstS n sc)) 9 false)]).length := ⟨_, rfl⟩
  obtain ⟨N, hN⟩ : ∃ N : List (Option ABlk), N = L ++ [some (.cells (ruL ruS) 0 false false)] ++ [some (rwB (tableL ruS n (lstS n sc)) 9 false)] ++ [some (.cells [I g] 1 false false)] := ⟨_, rfl⟩
  have hNk : N[k]? = some (some (.cells ((lstS n sc).flatMap mt) 5 true false)) := by rw [hN]; exact getApp (getApp (getApp hLk))
  have hN0 : N[L.length]? = some (some (.cells (ruL ruS) 0 false false)) := by rw [hN]; exact getApp (getApp List.getElem?_concat_length)
  have hN1 : N[kT]? = some (some (rwB (tableL ruS n (lstS n sc)) 9 false)) := by rw [hN, hkT]; exact getApp List.getElem?_concat_length
  have hN2 : N[kG]? = some (some (.cells [I g] 1 false false)) := by rw [hN, hkG]; exact List.getElem?_concat_length
  have cW := without_c (H := ext H H.fresh N) (n := n) (c := (lstS n sc).length) (d := 1) (g := (g : Int)) (slAt_flat mt_len (ext_get_new hNk)) (slAt_map (l := [(g : Int)]) (g := I) (ext_get_new hN2)) (ext_get_old hc hG) hM hlne (by omega) (by omega)
  rw [ext_add, ext_fresh] at cW
  obtain ⟨R, hR⟩ : ∃ R, R = restM (g : Int) (lstS n sc) := ⟨_, rfl⟩
  rw [← hR] at cW
  rw [← hkG, ← hkT]
  refine seqL_to (h' := ext H H.fresh N) sub_refl ?_ (by simp) ?_
  · rw [hN]; exact .refl _
  apply seq_call (ht := rfl); exact cW; exact rfl
  apply seq_plain; exact do_move rfl; exact rfl
  apply seq_plain; exact do_extract rfl rfl; exact rfl
  apply seq_plain; exact do_extract rfl rfl; exact rfl
  apply seq_plain; exact do_assign rfl; exact rfl
  apply seq_plain; exact do_assign rfl; exact rfl
  apply seq_nil
  apply ct_seq
  apply ct_region
  apply seq_plain; exact do_move rfl; exact rfl
  apply seq_plain; exact do_move rfl; exact rfl
  apply seq_plain; exact do_load rfl (by exact ext_get_new (getApp (by assumption))) rfl (by exact rfl); exact rfl
  have hRs : R.Sublist (lstS n sc) := by rw [hR]; exact List.filter_sublist
  have hRl : R.length ≤ (lstS n sc).length := hRs.length_le
  have hsR : SlAt (ext H H.fresh (N ++ [some (mtB (R ++ List.replicate ((lstS n sc).length - R.length) zeroM) 5 true)])) 5 mt (some ⟨nb H N.length, 0, none⟩) R := by
    have := (slAt_flat mt_len (ext_get_new (H := H) (lo := H.fresh) (L := N ++ [some (mtB (R ++ List.replicate ((lstS n sc).length - R.length) zeroM) 5 true)]) (k := N.length) List.getElem?_concat_length)).take R.length
    rwa [List.take_left] at this
  have cU := table_c (c := (lstS n sc).length) hsR (ext_get_old hc hG) (chk_sub h2 h6 hRs) ruS_ok (by omega)
  rw [ext_add, ext_fresh] at cU
  apply seq_call (ht := rfl); exact cU; exact rfl
  apply seq_plain; exact do_move rfl; exact rfl
  apply seq_plain; exact do_extract rfl rfl; exact rfl
  apply seq_plain; exact do_extract rfl rfl; exact rfl
  apply seq_plain; exact do_assign rfl; exact rfl
  apply seq_plain; exact do_assign rfl; exact rfl
  apply seq_nil
  apply ct_seq
  apply ct_seq
  apply ct_region
  apply seq_plain; exact do_move rfl; exact rfl
  apply seq_plain; exact do_move rfl; exact rfl
  apply seq_plain; exact do_add rfl rfl (by omega); exact rfl
  apply seq_plain; exact do_move rfl; exact rfl
  apply seq_plain; exact do_add rfl rfl (by omega); exact rfl
  apply seq_plain; exact do_binInt rfl rfl rfl trivial; exact rfl
  apply seq_plain; exact do_move rfl; exact rfl
  apply seq_guard (hd := rfl) (hl := rfl); exact do_move rfl; exact rfl
  apply seq_guard (hd := rfl) (hl := rfl); exact do_lenS rfl rfl rfl; exact rfl
  apply seq_guard (hd := rfl) (hl := rfl); exact do_move rfl; exact rfl
  apply seq_guard (hd := rfl) (hl := rfl); exact do_binInt rfl rfl rfl trivial; exact rfl
  apply seq_plain; exact do_pick_f rfl rfl; exact rfl
  apply seq_plain; exact do_move rfl; exact rfl
  have hnn : ((n : Int) != (n : Int)) = false := by simp
  have hR2 : (R.length : Int) = ((n - 1 : Nat) : Int) * ((n - 2 : Nat) : Int) := by
    have e : (R.map dirM).length = (n - 1) * (n - 2) := by rw [hR, restM_dir, lstS_dir]; exact hd.rest g hgn
    rw [List.length_map] at e
    rw [e]; push_cast; rfl
  have hR3 : ((R.length : Int) != ((n - 1 : Nat) : Int) * ((n - 2 : Nat) : Int)) = false := by rw [hR2]; simp
  have hmb2 : -9223372036854775808 ≤ ((n - 1 : Nat) : Int) * ((n - 2 : Nat) : Int) ∧ ((n - 1 : Nat) : Int) * ((n - 2 : Nat) : Int) ≤ 9223372036854775807 := by rw [← hR2]; omega
  rw [hnn]
  apply seq_guard (hd := rfl) (hl := rfl); exact do_move rfl; exact rfl
  apply seq_guard (hd := rfl) (hl := rfl); exact do_lenS rfl rfl rfl; exact rfl
  apply seq_guard (hd := rfl) (hl := rfl); exact do_move rfl; exact rfl
  apply seq_guard (hd := rfl) (hl := rfl); exact do_binInt rfl rfl rfl trivial; exact rfl
  apply seq_plain; exact do_pick_f rfl rfl; exact rfl
  apply seq_plain; exact do_move rfl; exact rfl
  rw [hnn]
  apply seq_guard (hd := rfl) (hl := rfl); exact do_move rfl; exact rfl
  apply seq_guard (hd := rfl) (hl := rfl); exact do_lenS rfl rfl rfl; exact rfl
  apply seq_guard (hd := rfl) (hl := rfl); exact do_move rfl; exact rfl
  apply seq_guard (hd := rfl) (hl := rfl); exact do_predN rfl rfl (by omega) (by omega); exact rfl
  apply seq_guard (hd := rfl) (hl := rfl); exact do_move rfl; exact rfl
  apply seq_guard (hd := rfl) (hl := rfl); exact do_subN rfl rfl (by omega) (by omega); exact rfl
  apply seq_guard (hd := rfl) (hl := rfl); exact do_mul rfl rfl (by assumption); exact rfl
  apply seq_guard (hd := rfl) (hl := rfl); exact do_binInt rfl rfl rfl trivial; exact rfl
  apply seq_plain; exact do_pick_f rfl rfl; exact rfl
  apply seq_nil
  rw [hR3]
  skip
  refine ct_cond_f rfl rfl ?_
  apply ct_skip
  apply ct_seq
  apply ct_region
  apply seq_plain; exact do_move rfl; exact rfl
  apply seq_newS; exact mk33 rfl (by omega); exact rfl
  apply seq_plain; exact do_build rfl rfl rfl rfl; exact rfl
  apply seq_newP; exact do_alloc rfl rfl; exact rfl
  apply seq_putC (hc := by assumption); rotate_left; exact do_store rfl rfl (by exact ext_get_new List.getElem?_concat_length) rfl rfl (nb_own _); rotate_left; exact (by simp)
  apply ct_seq
  apply ct_region
  apply seq_plain; exact do_assign rfl; exact rfl
  apply seq_plain; exact do_assign rfl; exact rfl
  apply seq_nil
  apply ct_seq
  apply ct_seq
  apply ct_region
  apply seq_plain; exact do_move rfl; exact rfl
  apply seq_plain; exact do_lenS rfl rfl rfl; exact rfl
  apply seq_plain; exact do_move rfl; exact rfl
  apply seq_nil
  apply ct_block
  apply ct_loop
  rw [set_mid rfl]
  obtain ⟨kU, hkU⟩ : ∃ kU, kU = (N ++ [some (mtB (R ++ List.replicate ((lstS n sc).length - R.length) zeroM) 5 true)]).length := ⟨_, rfl⟩
  obtain ⟨kP, hkP⟩ : ∃ kP, kP = (N ++ [some (mtB (R ++ List.replicate ((lstS n sc).length - R.length) zeroM) 5 true)] ++ [some (rwB (tableL ruS n R) 9 false)]).length := ⟨_, rfl⟩
  obtain ⟨kR, hkR⟩ : ∃ kR, kR = (N ++ [some (mtB (R ++ List.replicate ((lstS n sc).length - R.length) zeroM) 5 true)] ++ [some (rwB (tableL ruS n R) 9 false)] ++ [some (ABlk.cells ((List.replicate n 0).map I) 1 false false)]).length := ⟨_, rfl⟩
  obtain ⟨Q, hQ⟩ : ∃ Q : List (Option ABlk), Q = N ++ [some (mtB (R ++ List.replicate ((lstS n sc).length - R.length) zeroM) 5 true)] ++ [some (rwB (tableL ruS n R) 9 false)] ++ [some (ABlk.cells ((List.replicate n 0).map I) 1 false false)] ++ [some (.cells [.slice (some ⟨nb H kP, 0, none⟩) n n, .slice none 0 0] 0 false false)] := ⟨_, rfl⟩
  have qT : Q[kT]? = some (some (rwB (tableL ruS n (lstS n sc)) 9 false)) := by rw [hQ]; exact getApp (getApp (getApp (getApp hN1)))
  have qU : Q[kU]? = some (some (rwB (tableL ruS n R) 9 false)) := by rw [hQ, hkU]; exact getApp (getApp List.getElem?_concat_length)
  have qP : Q[kP]? = some (some (.cells ((ptsS (tableL ruS n (lstS n sc)) n 0).map I) 1 false false)) := by rw [hQ, hkP, ptsS_zero]; exact getApp List.getElem?_concat_length
  have qR : Q[kR]? = some (some (.cells [.slice (some ⟨nb H kP, 0, none⟩) n n, .slice none 0 0] 0 false false)) := by rw [hQ, hkR]; exact List.getElem?_concat_length
  have kne : kT < kP ∧ kU < kP ∧ kP < kR := by
    have := (List.getElem?_eq_some_iff.1 hN1).1
    rw [hkR, hkP, hkU]
    simp
    omega
  rw [← hkR, ← hkP, ← hkU, ← hQ]
  obtain ⟨T, hT⟩ : ∃ T, T = tableL ruS n (lstS n sc) := ⟨_, rfl⟩
  obtain ⟨U, hU⟩ : ∃ U, U = tableL ruS n R := ⟨_, rfl⟩
  have hTl : T.length = n := by rw [hT]; exact table_len
  have hUl : U.length = n := by rw [hU]; exact table_len
  have hnd : (T.map (·.team)).Nodup := by rw [hT]; exact table_nodup
  have hrow : ∀ i (h : i < T.length), RowT n T[i] := by subst hT; exact fun i h => rowT h2 h6 h
  have hrowU : ∀ i (h : i < U.length), RowU n (g : Int) U[i] := by subst hU; subst hR; exact fun i h => rowU h2 h6 hgn h
  have hdesc : ∀ i (h : i < T.length), T[i].pts ≤ (T[0]'(by omega)).pts := by subst hT; exact fun i h => table_desc (by omega) h
  have hsum : sumR (·.won) T = ((lstS n sc).length : Int) - evenN' (lstS n sc) ∧ sumR (·.drawn) T = 2 * (evenN' (lstS n sc) : Int) := by
    subst hT
    exact sum_won (fun m hm => ma_ok (lstS_mem hd m hm)) (fun m hm => by
      obtain ⟨i, hi, rfl⟩ := List.getElem_of_mem hm
      rw [lstS_len] at hi
      rw [lstS_get hi]; rfl)
  rw [← hT] at qT qP
  rw [← hU] at qU
  refine lt_meas (α := Nat × List (Option ABlk)) (fun a => [(0, I n), (9, .slice (some ⟨nb H k, 0, none⟩) (lstS n sc).length (lstS n sc).length), (10, I (evenN' (lstS n sc))), (16, .slice (some ⟨nb H kT, 0, none⟩) n n), (18, I g), (21, .slice (some ⟨nb H kU, 0, none⟩) n n), (23, .pointer (some ⟨nb H kR, 0, none⟩)), (24, I (sumR (·.won) (T.take a.1))), (25, I (sumR (·.drawn) (T.take a.1))), (167, .slice (some ⟨nb H kT, 0, none⟩) n n), (168, I n), (169, I a.1)]) (fun a => ext H H.fresh a.2)
    (fun a => a.1 ≤ n ∧ a.2[kT]? = some (some (rwB T 9 false)) ∧ a.2[kU]? = some (some (rwB U 9 false)) ∧ a.2[kP]? = some (some (.cells ((ptsS T n a.1).map I) 1 false false)) ∧ a.2[kR]? = some (some (.cells [.slice (some ⟨nb H kP, 0, none⟩) n n, .slice none 0 0] 0 false false))) (fun a => n - a.1) (fun a ha ih => ?_) (0, Q) ⟨by simp, qT, qU, qP, qR⟩ (by repeat (first | exact sub_nil | apply sub_cons rfl)) (.refl _)
  have hll : (lstS n sc).length ≤ 30 := by omega
  have hev : evenN' (lstS n sc) ≤ (lstS n sc).length := List.length_filter_le _ _
  clear hN hQ cT cW cU cD qT qU qP qR hN0 hN1 hN2 hNk hs hG hM hmul hmb hmb2 hne0 hR2 hR3 hnn hRs hRl hsR hgl hgl2 hgl30 hlne hLk hd hkG hkT hkU hkP hkR hT hU hR hg hox hlen hsl
  obtain ⟨i, L2⟩ := a
  obtain ⟨hi2, gT, gU, gP, gR⟩ := ha
  simp only at hi2 gT gU gP gR ih ⊢
  have ih' := fun i' L' a1 a2 a3 a4 a5 a6 => ih (i', L') a1 ⟨a2, a3, a4, a5, a6⟩
  simp only at ih'
  clear ih
  apply ct_seq
  apply ct_region
  apply seq_plain; exact do_binInt rfl rfl rfl trivial; exact rfl
  apply seq_nil
  apply ct_seq
  refine ct_cond rfl (fun g1 => ?_) (fun g1 => ?_)
  · simp only [decide_eq_true_eq, Int.ofNat_lt] at g1
    have hiT : i < T.length := by omega
    obtain ⟨⟨t0, t1⟩, rp, rs, rpt, ⟨bw, bd, bl, bp⟩⟩ := hrow i hiT
    have b6 : -9223372036854775808 ≤ 2 * ((n - 1 : Nat) : Int) ∧ 2 * ((n - 1 : Nat) : Int) ≤ 9223372036854775807 := by omega
    have b7 : -9223372036854775808 ≤ 2 * T[i].won ∧ 2 * T[i].won ≤ 9223372036854775807 := by omega
    have c1 : decide (T[i].team < 0) = false := decide_eq_false (by omega)
    have c2 : decide (T[i].team ≥ (n : Int)) = false := decide_eq_false (by omega)
    have c3 : (T[i].played != 2 * ((n - 1 : Nat) : Int)) = false := by rw [bne_eq_false_iff_eq]; omega
    have c4 : (T[i].won + T[i].drawn + T[i].lost != T[i].played) = false := by rw [bne_eq_false_iff_eq]; exact rs
    have c5 : (T[i].pts != 2 * T[i].won + T[i].drawn) = false := by rw [bne_eq_false_iff_eq]; exact rpt
    have bdS : ∀ j (h : j < T.length), (0 ≤ T[j].won ∧ T[j].won ≤ 1000000) ∧ (0 ≤ T[j].drawn ∧ T[j].drawn ≤ 1000000) := fun j h => by
      obtain ⟨_, _, _, _, ⟨w1, w2, _, _⟩⟩ := hrow j h
      exact ⟨by omega, by omega⟩
    have s1 := sumR_bd (f := (·.won)) (fun j h => (bdS j h).1) i (by omega)
    have s2 := sumR_bd (f := (·.drawn)) (fun j h => (bdS j h).2) i (by omega)
    have e1 := sumR_snoc (f := (·.won)) hiT
    have e2 := sumR_snoc (f := (·.drawn)) hiT
    have eps := ptsS_set (n := n) hnd hiT t0
    have hpl := ptsS_len (T := T) (n := n) (k := i)
    apply ct_skip
    apply ct_seq
    apply ct_block
    apply ct_seq
    apply ct_region
    apply seq_plain; exact do_indexAddrS rfl rfl rfl (by exact idx_nat (by omega)); exact rfl
    apply seq_plain; exact do_load rfl (by exact ext_get_new (by assumption)) rfl (by exact pt_flat rw9_len (by omega)); exact rfl
    apply seq_newP; exact do_alloc rfl rfl; exact rfl
    apply seq_putC (hc := by assumption); rotate_left; exact do_store rfl rfl (by exact ext_get_new List.getElem?_concat_length) rfl rfl (nb_own _); rotate_left; exact (by simp)
    apply ct_seq
    apply ct_seq
    apply ct_region
    apply seq_plain; exact do_fieldAddr rfl rfl; exact rfl
    apply seq_plain; exact do_load rfl (by exact ext_get_new getSetLast) rfl (by exact rfl); exact rfl
    apply seq_plain; exact do_binInt rfl rfl rfl trivial; exact rfl
    apply seq_plain; exact do_move rfl; exact rfl
    rw [set_mid rfl, c1]
    obtain ⟨L3, hL3⟩ : ∃ L3 : List (Option ABlk), L3 = L2 ++ [some (.cells [I T[i].team, I T[i].played, I T[i].won, I T[i].drawn, I T[i].lost, I T[i].fr, I T[i].ag, I T[i].pts, I T[i].rank] 0 false false)] := ⟨_, rfl⟩
    have f8 : L3[L2.length]? = some (some (.cells [I T[i].team, I T[i].played, I T[i].won, I T[i].drawn, I T[i].lost, I T[i].fr, I T[i].ag, I T[i].pts, I T[i].rank] 0 false false)) := by rw [hL3]; exact List.getElem?_concat_length
    have fT := getApp (m := [some (.cells [I T[i].team, I T[i].played, I T[i].won, I T[i].drawn, I T[i].lost, I T[i].fr, I T[i].ag, I T[i].pts, I T[i].rank] 0 false false)]) gT
    have fU := getApp (m := [some (.cells [I T[i].team, I T[i].played, I T[i].won, I T[i].drawn, I T[i].lost, I T[i].fr, I T[i].ag, I T[i].pts, I T[i].rank] 0 false false)]) gU
    have fP := getApp (m := [some (.cells [I T[i].team, I T[i].played, I T[i].won, I T[i].drawn, I T[i].lost, I T[i].fr, I T[i].ag, I T[i].pts, I T[i].rank] 0 false false)]) gP
    have fR := getApp (m := [some (.cells [I T[i].team, I T[i].played, I T[i].won, I T[i].drawn, I T[i].lost, I T[i].fr, I T[i].ag, I T[i].pts, I T[i].rank] 0 false false)]) gR
    rw [← hL3] at fT fU fP fR
    rw [← hL3]
    clear hL3 gT gU gP gR
    apply seq_guard (hd := rfl) (hl := rfl); exact do_fieldAddr rfl rfl; exact rfl
    apply seq_guard (hd := rfl) (hl := rfl); exact do_load rfl (by exact ext_get_new (by assumption)) rfl (by exact rfl); exact rfl
    apply seq_guard (hd := rfl) (hl := rfl); exact do_move rfl; exact rfl
    apply seq_guard (hd := rfl) (hl := rfl); exact do_binInt rfl rfl rfl trivial; exact rfl
    apply seq_plain; exact do_pick_f rfl rfl; exact rfl
    apply seq_plain; exact do_move rfl; exact rfl
    rw [c2]
    apply seq_guard (hd := rfl) (hl := rfl); exact do_fieldAddr rfl rfl; exact rfl
    apply seq_guard (hd := rfl) (hl := rfl); exact do_load rfl (by exact ext_get_new (by assumption)) rfl (by exact rfl); exact rfl
    apply seq_guard (hd := rfl) (hl := rfl); exact do_move rfl; exact rfl
    apply seq_guard (hd := rfl) (hl := rfl); exact do_predN rfl rfl (by omega) (by omega); exact rfl
    apply seq_guard (hd := rfl) (hl := rfl); exact do_mul rfl rfl (by assumption); exact rfl
    apply seq_guard (hd := rfl) (hl := rfl); exact do_binInt rfl rfl rfl trivial; exact rfl
    apply seq_plain; exact do_pick_f rfl rfl; exact rfl
    apply seq_plain; exact do_move rfl; exact rfl
    rw [c3]
    apply seq_guard (hd := rfl) (hl := rfl); exact do_fieldAddr rfl rfl; exact rfl
    apply seq_guard (hd := rfl) (hl := rfl); exact do_load rfl (by exact ext_get_new (by assumption)) rfl (by exact rfl); exact rfl
    apply seq_guard (hd := rfl) (hl := rfl); exact do_fieldAddr rfl rfl; exact rfl
    apply seq_guard (hd := rfl) (hl := rfl); exact do_load rfl (by exact ext_get_new (by assumption)) rfl (by exact rfl); exact rfl
    apply seq_guard (hd := rfl) (hl := rfl); exact do_add rfl rfl (by omega); exact rfl
    apply seq_guard (hd := rfl) (hl := rfl); exact do_fieldAddr rfl rfl; exact rfl
    apply seq_guard (hd := rfl) (hl := rfl); exact do_load rfl (by exact ext_get_new (by assumption)) rfl (by exact rfl); exact rfl
    apply seq_guard (hd := rfl) (hl := rfl); exact do_add rfl rfl (by omega); exact rfl
    apply seq_guard (hd := rfl) (hl := rfl); exact do_fieldAddr rfl rfl; exact rfl
    apply seq_guard (hd := rfl) (hl := rfl); exact do_load rfl (by exact ext_get_new (by assumption)) rfl (by exact rfl); exact rfl
    apply seq_guard (hd := rfl) (hl := rfl); exact do_binInt rfl rfl rfl trivial; exact rfl
    apply seq_plain; exact do_pick_f rfl rfl; exact rfl
    apply seq_plain; exact do_move rfl; exact rfl
    rw [c4]
    apply seq_guard (hd := rfl) (hl := rfl); exact do_fieldAddr rfl rfl; exact rfl
    apply seq_guard (hd := rfl) (hl := rfl); exact do_load rfl (by exact ext_get_new (by assumption)) rfl (by exact rfl); exact rfl
    apply seq_guard (hd := rfl) (hl := rfl); exact do_fieldAddr rfl rfl; exact rfl
    apply seq_guard (hd := rfl) (hl := rfl); exact do_load rfl (by exact ext_get_new (by assumption)) rfl (by exact rfl); exact rfl
    apply seq_guard (hd := rfl) (hl := rfl); exact do_mul rfl rfl (by assumption); exact rfl
    apply seq_guard (hd := rfl) (hl := rfl); exact do_fieldAddr rfl rfl; exact rfl
    apply seq_guard (hd := rfl) (hl := rfl); exact do_load rfl (by exact ext_get_new (by assumption)) rfl (by exact rfl); exact rfl
    apply seq_guard (hd := rfl) (hl := rfl); exact do_add rfl rfl (by omega); exact rfl
    apply seq_guard (hd := rfl) (hl := rfl); exact do_binInt rfl rfl rfl trivial; exact rfl
    apply seq_plain; exact do_pick_f rfl rfl; exact rfl
    apply seq_nil
    rw [c5]
    skip
    refine ct_cond_f rfl rfl ?_
    apply ct_skip
    apply ct_seq
    apply ct_draw (by assumption); decide +kernel
    apply sd_plain (hfree := rfl); intro _; exact do_move rfl; exact rfl
    apply sd_plain (hfree := rfl); intro _; exact do_fieldAddr rfl rfl; exact rfl
    apply sd_look (hfree := rfl); exact do_load rfl (by exact ext_get_new (getApp (by assumption))) rfl (by exact rfl); exact rfl
    apply sd_plain (hfree := rfl); intro _; exact do_add rfl rfl (by omega); exact rfl
    apply sd_plain (hfree := rfl); intro _; exact do_move rfl; exact rfl
    apply sd_plain (hfree := rfl); intro _; exact do_fieldAddr rfl rfl; exact rfl
    apply sd_look (hfree := rfl); exact do_load rfl (by exact ext_get_new (getApp (by assumption))) rfl (by exact rfl); exact rfl
    apply sd_plain (hfree := rfl); intro _; exact do_add rfl rfl (by omega); exact rfl
    apply sd_plain (hfree := rfl); intro _; exact do_assign rfl; exact rfl
    apply sd_plain (hfree := rfl); intro _; exact do_assign rfl; exact rfl
    apply sd_nil
    apply ct_region
    apply seq_plain; exact do_fieldAddr rfl rfl; exact rfl
    apply seq_plain; exact do_load rfl (by exact ext_get_new (getApp (by assumption))) rfl (by exact rfl); exact rfl
    apply seq_plain; exact do_fieldAddr rfl rfl; exact rfl
    apply seq_plain; exact do_load rfl (by exact ext_get_new (getApp (by assumption))) rfl (by exact rfl); exact rfl
    apply seq_plain; exact do_fieldAddr rfl rfl; exact rfl
    apply seq_plain; exact do_load rfl (by exact ext_get_new (getApp (by assumption))) rfl (by exact rfl); exact rfl
    apply seq_plain; exact do_indexAddrS rfl rfl rfl (by exact idx_int (by omega)); exact rfl
    clear c1 c2 c3 c4 c5 b6 b7
    simp only [List.map_nil, List.append_nil]
    refine seq_putQC (k := kP) hc (List.getElem?_eq_some_iff.1 fP).1 (do_store rfl rfl (ext_get_new fP) rfl (stl_map (by rw [hpl]; omega) rfl rfl) (nb_own _)) (fun L4 hl4 ho4 hk4 => ?_)
    rw [eps] at hk4
    have f1 := (ho4 kT (by omega)).trans fT
    have f2 := (ho4 kU (by omega)).trans fU
    have f4 := (ho4 kR (by omega)).trans fR
    clear ho4
    apply ct_region
    apply seq_plain; exact do_succ rfl (by omega); exact rfl
    apply seq_plain; exact do_move rfl; exact rfl
    apply seq_nil
    refine lt_to ?_ (.refl _) (ih' (i + 1) L4 (by omega) (by omega) f1 f2 hk4 f4)
    rw [e1, e2]
    (repeat (first | exact sub_nil | apply sub_cons rfl))
  have g1 : n = i := by simp only [decide_eq_false_iff_not] at g1; omega
  subst g1
  clear ih'
  rw [List.take_of_length_le (by omega)]
  have c6 : (sumR (·.won) T != (((lstS n sc).length - evenN' (lstS n sc) : Nat) : Int)) = false := by rw [bne_eq_false_iff_eq, hsum.1]; omega
  have c7 : (sumR (·.drawn) T != 2 * (evenN' (lstS n sc) : Int)) = false := by rw [bne_eq_false_iff_eq, hsum.2]
  have b7 : -9223372036854775808 ≤ 2 * (evenN' (lstS n sc) : Int) ∧ 2 * (evenN' (lstS n sc) : Int) ≤ 9223372036854775807 := by omega
  apply ct_exit
  apply exit_eq; exact rfl
  apply ct_seq
  apply ct_seq
  apply ct_region
  apply seq_plain; exact do_move rfl; exact rfl
  apply seq_plain; exact do_move rfl; exact rfl
  apply seq_plain; exact do_lenS rfl rfl rfl; exact rfl
  apply seq_plain; exact do_move rfl; exact rfl
  apply seq_plain; exact do_subN rfl rfl (by omega) (by omega); exact rfl
  apply seq_plain; exact do_binInt rfl rfl rfl trivial; exact rfl
  apply seq_plain; exact do_move rfl; exact rfl
  rw [c6]
  apply seq_guard (hd := rfl) (hl := rfl); exact do_move rfl; exact rfl
  apply seq_guard (hd := rfl) (hl := rfl); exact do_move rfl; exact rfl
  apply seq_guard (hd := rfl) (hl := rfl); exact do_mul rfl rfl (by assumption); exact rfl
  apply seq_guard (hd := rfl) (hl := rfl); exact do_binInt rfl rfl rfl trivial; exact rfl
  apply seq_plain; exact do_pick_f rfl rfl; exact rfl
  apply seq_nil
  rw [c7]
  skip
  refine ct_cond_f rfl rfl ?_
  apply ct_skip
  apply ct_seq
  apply ct_seq
  apply ct_region
  apply seq_plain; exact do_move rfl; exact rfl
  apply seq_plain; exact do_lenS rfl rfl rfl; exact rfl
  apply seq_plain; exact do_move rfl; exact rfl
  apply seq_nil
  apply ct_block
  apply ct_loop
  clear c6 c7 b7 hsum
  obtain ⟨P, hP⟩ : ∃ P, P = ptsS T n n := ⟨_, rfl⟩
  have hPl : P.length = n := by rw [hP]; exact ptsS_len
  rw [← hP] at gP
  refine lt_meas (α := Nat × List (Option ABlk)) (fun a => [(0, I n), (16, .slice (some ⟨nb H kT, 0, none⟩) n n), (18, I g), (23, .pointer (some ⟨nb H kR, 0, none⟩)), (242, .slice (some ⟨nb H kU, 0, none⟩) n n), (243, I n), (244, I a.1)]) (fun a => ext H H.fresh a.2)
    (fun a => a.1 ≤ n ∧ a.2[kT]? = some (some (rwB T 9 false)) ∧ a.2[kU]? = some (some (rwB U 9 false)) ∧ a.2[kP]? = some (some (.cells (P.map I) 1 false false)) ∧ a.2[kR]? = some (some (.cells [.slice (some ⟨nb H kP, 0, none⟩) n n, .slice none 0 0] 0 false false))) (fun a => n - a.1) (fun a ha ih => ?_) (0, L2) ⟨by simp, gT, gU, gP, gR⟩ (by repeat (first | exact sub_nil | apply sub_cons rfl)) (.refl _)
  clear gT gU gP gR
  obtain ⟨i, L5⟩ := a
  obtain ⟨hi5, gT, gU, gP, gR⟩ := ha
  simp only at hi5 gT gU gP gR ih ⊢
  have ih' := fun i' L' a1 a2 a3 a4 a5 a6 => ih (i', L') a1 ⟨a2, a3, a4, a5, a6⟩
  simp only at ih'
  clear ih
  apply ct_seq
  apply ct_region
  apply seq_plain; exact do_binInt rfl rfl rfl trivial; exact rfl
  apply seq_nil
  apply ct_seq
  refine ct_cond rfl (fun g1 => ?_) (fun g1 => ?_)
  · simp only [decide_eq_true_eq, Int.ofNat_lt] at g1
    have hiU : i < U.length := by omega
    obtain ⟨ro, rw0⟩ := hrowU i hiU
    have b8 : -9223372036854775808 ≤ 2 * ((n - 2 : Nat) : Int) ∧ 2 * ((n - 2 : Nat) : Int) ≤ 9223372036854775807 := by omega
    apply ct_skip
    apply ct_seq
    apply ct_block
    apply ct_seq
    apply ct_region
    apply seq_plain; exact do_indexAddrS rfl rfl rfl (by exact idx_nat (by omega)); exact rfl
    apply seq_plain; exact do_load rfl (by exact ext_get_new (by assumption)) rfl (by exact pt_flat rw9_len (by omega)); exact rfl
    apply seq_newP; exact do_alloc rfl rfl; exact rfl
    apply seq_putC (hc := by assumption); rotate_left; exact do_store rfl rfl (by exact ext_get_new List.getElem?_concat_length) rfl rfl (nb_own _); rotate_left; exact (by simp)
    apply ct_seq
    apply ct_region
    apply seq_plain; exact do_fieldAddr rfl rfl; exact rfl
    apply seq_plain; exact do_load rfl (by exact ext_get_new getSetLast) rfl (by exact rfl); exact rfl
    apply seq_plain; exact do_move rfl; exact rfl
    apply seq_plain; exact do_binInt rfl rfl rfl trivial; exact rfl
    apply seq_plain; exact do_move rfl; exact rfl
    rw [set_mid rfl]
    refine seq_J [(0, I n), (16, .slice (some ⟨nb H kT, 0, none⟩) n n), (18, I g), (23, .pointer (some ⟨nb H kR, 0, none⟩)), (242, .slice (some ⟨nb H kU, 0, none⟩) n n), (243, I n), (244, I i), (275, .bool false)] (ds := []) (h := ext H H.fresh (L5 ++ [some (.cells [I U[i].team, I U[i].played, I U[i].won, I U[i].drawn, I U[i].lost, I U[i].fr, I U[i].ag, I U[i].pts, I U[i].rank] 0 false false)])) ?_ ?_
    · refine seq_gsplit rfl rfl (fun u2 => ?_) (fun u2 => ?_)
      · have u2 : (U[i].team != (g : Int)) = true := u2
        have hne : U[i].team ≠ (g : Int) := by simpa using u2
        have c8 : (U[i].played != 2 * ((n - 2 : Nat) : Int)) = false := by rw [bne_eq_false_iff_eq, ro hne]; omega
        have c9 : (U[i].team == (g : Int)) = false := by simpa using hne
        rw [u2]
        apply seq_guard (hd := rfl) (hl := rfl); exact do_fieldAddr rfl rfl; exact rfl
        apply seq_guard (hd := rfl) (hl := rfl); exact do_load rfl (by exact ext_get_new List.getElem?_concat_length) rfl (by exact rfl); exact rfl
        apply seq_guard (hd := rfl) (hl := rfl); exact do_move rfl; exact rfl
        apply seq_guard (hd := rfl) (hl := rfl); exact do_subN rfl rfl (by omega) (by omega); exact rfl
        apply seq_guard (hd := rfl) (hl := rfl); exact do_mul rfl rfl (by assumption); exact rfl
        apply seq_guard (hd := rfl) (hl := rfl); exact do_binInt rfl rfl rfl trivial; exact rfl
        apply seq_plain; exact do_pick_t rfl rfl; exact rfl
        apply seq_plain; exact do_move rfl; exact rfl
        rw [c8]
        apply seq_guard (hd := rfl) (hl := rfl); exact do_fieldAddr rfl rfl; exact rfl
        apply seq_guard (hd := rfl) (hl := rfl); exact do_load rfl (by exact ext_get_new List.getElem?_concat_length) rfl (by exact rfl); exact rfl
        apply seq_guard (hd := rfl) (hl := rfl); exact do_move rfl; exact rfl
        apply seq_guard (hd := rfl) (hl := rfl); exact do_binInt rfl rfl rfl trivial; exact rfl
        apply seq_guard (hd := rfl) (hl := rfl); exact do_move rfl; exact rfl
        rw [c9]
        apply seq_passed (hd := rfl) (hl := rfl) (hb := rfl); exact rfl
        apply seq_passed (hd := rfl) (hl := rfl) (hb := rfl); exact rfl
        apply seq_passed (hd := rfl) (hl := rfl) (hb := rfl); exact rfl
        apply seq_passed (hd := rfl) (hl := rfl) (hb := rfl); exact rfl
        apply seq_passedU (hd := rfl) (hl := rfl); exact rfl
        apply seq_passedU (hd := rfl) (hl := rfl); exact rfl
        apply seq_passedU (hd := rfl) (hl := rfl); exact rfl
        apply seq_passed (hd := rfl) (hl := rfl) (hb := rfl); exact rfl
        apply seq_guard (hd := rfl) (hl := rfl); exact do_pick_f rfl rfl; exact rfl
        apply seq_plain; exact do_pick_f rfl rfl; exact rfl
        apply seq_nil
        exact jp_of (by repeat (first | exact sub_nil | apply sub_cons rfl))
      · have u2 : (U[i].team != (g : Int)) = false := u2
        have he : U[i].team = (g : Int) := by simpa using u2
        obtain ⟨z1, z2⟩ := rw0 he
        have c8 : (U[i].played != 0) = false := by rw [z1]; rfl
        have c9 : (U[i].team == (g : Int)) = true := by simpa using he
        have c10 : (U[i].pts != 0) = false := by rw [z2]; rfl
        rw [u2]
        apply seq_passed (hd := rfl) (hl := rfl) (hb := rfl); exact rfl
        apply seq_passed (hd := rfl) (hl := rfl) (hb := rfl); exact rfl
        apply seq_passed (hd := rfl) (hl := rfl) (hb := rfl); exact rfl
        apply seq_passed (hd := rfl) (hl := rfl) (hb := rfl); exact rfl
        apply seq_passed (hd := rfl) (hl := rfl) (hb := rfl); exact rfl
        apply seq_passed (hd := rfl) (hl := rfl) (hb := rfl); exact rfl
        apply seq_plain; exact do_pick_f rfl rfl; exact rfl
        apply seq_plain; exact do_move rfl; exact rfl
        apply seq_guard (hd := rfl) (hl := rfl); exact do_fieldAddr rfl rfl; exact rfl
        apply seq_guard (hd := rfl) (hl := rfl); exact do_load rfl (by exact ext_get_new List.getElem?_concat_length) rfl (by exact rfl); exact rfl
        apply seq_guard (hd := rfl) (hl := rfl); exact do_move rfl; exact rfl
        apply seq_guard (hd := rfl) (hl := rfl); exact do_binInt rfl rfl rfl trivial; exact rfl
        apply seq_guard (hd := rfl) (hl := rfl); exact do_move rfl; exact rfl
        rw [c9]
        apply seq_guard (hd := rfl) (hl := rfl); exact do_fieldAddr rfl rfl; exact rfl
        apply seq_guard (hd := rfl) (hl := rfl); exact do_load rfl (by exact ext_get_new List.getElem?_concat_length) rfl (by exact rfl); exact rfl
        apply seq_guard (hd := rfl) (hl := rfl); exact do_binInt rfl rfl rfl trivial; exact rfl
        apply seq_guard (hd := rfl) (hl := rfl); exact do_move rfl; exact rfl
        rw [c8]
        apply seq_guard (hd := rfl) (hl := rfl); exact do_fieldAddr rfl rfl; exact rfl
        apply seq_guard (hd := rfl) (hl := rfl); exact do_load rfl (by exact ext_get_new List.getElem?_concat_length) rfl (by exact rfl); exact rfl
        apply seq_guard (hd := rfl) (hl := rfl); exact do_binInt rfl rfl rfl trivial; exact rfl
        apply seq_guard (hd := rfl) (hl := rfl); exact do_pick_f rfl rfl; exact rfl
        apply seq_guard (hd := rfl) (hl := rfl); exact do_pick_t rfl rfl; exact rfl
        apply seq_plain; exact do_pick_f rfl rfl; exact rfl
        apply seq_nil
        rw [c10]
        skip
        exact jp_of (by repeat (first | exact sub_nil | apply sub_cons rfl))
    refine ct_cond_f rfl rfl ?_
    apply ct_skip
    apply ct_region
    apply seq_plain; exact do_succ rfl (by omega); exact rfl
    apply seq_plain; exact do_move rfl; exact rfl
    apply seq_nil
    exact lt_to (by repeat (first | exact sub_nil | apply sub_cons rfl)) (.refl _) (ih' (i + 1) _ (by omega) (by omega) (getApp gT) (getApp gU) (getApp gP) (getApp gR))
  have g1 : n = i := by simp only [decide_eq_false_iff_not] at g1; omega
  subst g1
  clear ih' hi5 hrowU
  apply ct_exit
  apply exit_eq; exact rfl
  apply ct_seq
  apply ct_seq
  apply ct_region
  apply seq_plain; exact do_move rfl; exact rfl
  apply seq_plain; exact do_lenS rfl rfl rfl; exact rfl
  apply seq_plain; exact do_move rfl; exact rfl
  apply seq_nil
  apply ct_block
  apply ct_loop
  have hmx : ∀ y ∈ P, y ≤ (T[0]'(by omega)).pts := fun y hy => by
    rw [hP] at hy
    have h0 := (hrow 0 (by omega)).bd.2.2.2
    rcases ptsS_mem hy with rfl | ⟨x, hx, rfl⟩
    · omega
    · obtain ⟨j, hj, rfl⟩ := List.getElem_of_mem hx
      exact hdesc j hj
  have hgd : GoodR P [] := ⟨by omega, by omega, fun y hy => by
    rw [hP] at hy
    rcases ptsS_mem hy with rfl | ⟨x, hx, rfl⟩
    · omega
    · obtain ⟨j, hj, rfl⟩ := List.getElem_of_mem hx
      have := (hrow j hj).bd.2.2.2
      omega, by simp, by simp⟩
  have hat : ∀ j (hj : j < T.length), ptL P T[j].team = T[j].pts := fun j hj => by
    have := ptsS_at (n := n) hnd hj (hrow j hj).team
    rw [hP, ← this, hTl]
  refine lt_meas (α := Nat × List (Option ABlk)) (fun a => [(16, .slice (some ⟨nb H kT, 0, none⟩) n n), (23, .pointer (some ⟨nb H kR, 0, none⟩)), (277, .slice (some ⟨nb H kT, 0, none⟩) n n), (278, I n), (279, I a.1)]) (fun a => ext H H.fresh a.2)
    (fun a => a.1 ≤ n ∧ a.2[kT]? = some (some (rwB T 9 false)) ∧ a.2[kP]? = some (some (.cells (P.map I) 1 false false)) ∧ a.2[kR]? = some (some (.cells [.slice (some ⟨nb H kP, 0, none⟩) n n, .slice none 0 0] 0 false false))) (fun a => n - a.1) (fun a ha ih => ?_) (0, L5) ⟨by simp, gT, gP, gR⟩ (by repeat (first | exact sub_nil | apply sub_cons rfl)) (.refl _)
  clear gT gU gP gR hP
  obtain ⟨i, L6⟩ := a
  obtain ⟨hi6, gT, gP, gR⟩ := ha
  simp only at hi6 gT gP gR ih ⊢
  have ih' := fun i' L' a1 a2 a3 a4 a5 => ih (i', L') a1 ⟨a2, a3, a4, a5⟩
  simp only at ih'
  clear ih
  apply ct_seq
  apply ct_region
  apply seq_plain; exact do_binInt rfl rfl rfl trivial; exact rfl
  apply seq_nil
  apply ct_seq
  refine ct_cond rfl (fun g1 => ?_) (fun g1 => ?_)
  · simp only [decide_eq_true_eq, Int.ofNat_lt] at g1
    have hiT : i < T.length := by omega
    obtain ⟨t0, t1⟩ := (hrow i hiT).team
    have h0T : 0 < T.length := by omega
    have hti := hat i hiT
    have hlei := hdesc i hiT
    have ht0i := hat 0 h0T
    apply ct_skip
    apply ct_seq
    apply ct_block
    apply ct_seq
    apply ct_region
    apply seq_plain; exact do_indexAddrS rfl rfl rfl (by exact idx_nat (by omega)); exact rfl
    apply seq_plain; exact do_load rfl (by exact ext_get_new (by assumption)) rfl (by exact pt_flat rw9_len (by omega)); exact rfl
    apply seq_newP; exact do_alloc rfl rfl; exact rfl
    apply seq_putC (hc := by assumption); rotate_left; exact do_store rfl rfl (by exact ext_get_new List.getElem?_concat_length) rfl rfl (nb_own _); rotate_left; exact (by simp)
    apply ct_seq
    apply ct_region
    rw [set_mid rfl]
    have cTi := title_c (H := ext H H.fresh (L6 ++ [some (.cells [I T[i].team, I T[i].played, I T[i].won, I T[i].drawn, I T[i].lost, I T[i].fr, I T[i].ag, I T[i].pts, I T[i].rank] 0 false false)])) (q := some ⟨nb H kP, 0, none⟩) (c := n) (r := none) (d := 0) (pts := P) (opn := []) (team := T[i].team) (slAt_map (ext_get_new (getApp gP))) .nil (chk_zero hgd (by omega) (by omega))
    rw [hPl] at cTi
    have fT := getApp (m := [some (.cells [I T[i].team, I T[i].played, I T[i].won, I T[i].drawn, I T[i].lost, I T[i].fr, I T[i].ag, I T[i].pts, I T[i].rank] 0 false false)]) gT
    have fP := getApp (m := [some (.cells [I T[i].team, I T[i].played, I T[i].won, I T[i].drawn, I T[i].lost, I T[i].fr, I T[i].ag, I T[i].pts, I T[i].rank] 0 false false)]) gP
    have fR := getApp (m := [some (.cells [I T[i].team, I T[i].played, I T[i].won, I T[i].drawn, I T[i].lost, I T[i].fr, I T[i].ag, I T[i].pts, I T[i].rank] 0 false false)]) gR
    obtain ⟨L7, hL7⟩ : ∃ L7 : List (Option ABlk), L7 = L6 ++ [some (.cells [I T[i].team, I T[i].played, I T[i].won, I T[i].drawn, I T[i].lost, I T[i].fr, I T[i].ag, I T[i].pts, I T[i].rank] 0 false false)] := ⟨_, rfl⟩
    have f8 : L7[L6.length]? = some (some (.cells [I T[i].team, I T[i].played, I T[i].won, I T[i].drawn, I T[i].lost, I T[i].fr, I T[i].ag, I T[i].pts, I T[i].rank] 0 false false)) := by rw [hL7]; exact List.getElem?_concat_length
    rw [← hL7] at fT fP fR cTi
    rw [← hL7]
    clear hL7 gT gP gR
    have e00 : T[(0 : Int).toNat]'(by simpa using h0T) = T[0] := rfl
    apply seq_plain; exact do_load rfl (by exact ext_get_new (by assumption)) rfl (by exact rfl); exact rfl
    apply seq_plain; exact do_fieldAddr rfl rfl; exact rfl
    apply seq_plain; exact do_load rfl (by exact ext_get_new (by assumption)) rfl (by exact rfl); exact rfl
    refine seq_callQ rfl cTi rfl (fun v hh hv => ?_)
    rcases hv with ⟨hbe, rfl, rfl⟩ | ⟨hbe, p, hp0, hpl, rfl, rfl⟩
    · have hne : (T[i].pts == T[0].pts) = false := by
        rw [beq_eq_false_iff_ne]
        exact fun e => hbe (first_best hgd hmx (hti.trans e))
      apply seq_plain; exact do_move rfl; exact rfl
      apply seq_plain; exact do_extract rfl rfl; exact rfl
      apply seq_plain; exact do_extract rfl rfl; exact rfl
      apply seq_plain; exact do_assign rfl; exact rfl
      apply seq_plain; exact do_assign rfl; exact rfl
      apply seq_nil
      apply ct_seq
      apply ct_draw (by assumption); decide +kernel
      apply sd_plain (hfree := rfl); intro _; exact do_move rfl; exact rfl
      apply sd_look (hfree := rfl); exact do_lenS rfl rfl rfl; exact rfl
      apply sd_plain (hfree := rfl); intro _; exact do_binInt rfl rfl rfl trivial; exact rfl
      apply sd_plain (hfree := rfl); intro _; exact do_move rfl; exact rfl
      apply sd_guard (hfree := rfl) (hg := rfl) (hl := rfl); intro _; exact do_move rfl; exact rfl
      apply sd_guard (hfree := rfl) (hg := rfl) (hl := rfl); intro _; exact do_binInt rfl rfl rfl trivial; exact rfl
      apply sd_guard (hfree := rfl) (hg := rfl) (hl := rfl); intro _; exact do_fieldAddr rfl rfl; exact rfl
      apply sd_guardL (hfree := rfl) (hg := rfl) (hl := rfl); exact do_load rfl (by exact ext_get_new (getApp (by assumption))) rfl (by exact rfl); exact rfl
      apply sd_guard (hfree := rfl) (hg := rfl) (hl := rfl); intro _; exact do_move rfl; exact rfl
      apply sd_guard (hfree := rfl) (hg := rfl) (hl := rfl); intro _; exact do_indexAddrS rfl rfl rfl (by exact idx_int (by omega)); exact rfl
      apply sd_guard (hfree := rfl) (hg := rfl) (hl := rfl); intro _; exact do_fieldAddr rfl rfl; exact rfl
      apply sd_guardL (hfree := rfl) (hg := rfl) (hl := rfl); exact do_load rfl (by exact ext_get_new (getApp (by assumption))) rfl (by exact pt_flat1 rw9_len (by omega) rfl); exact rfl
      apply sd_guard (hfree := rfl) (hg := rfl) (hl := rfl); intro _; exact do_binInt rfl rfl rfl trivial; exact rfl
      apply sd_guard (hfree := rfl) (hg := rfl) (hl := rfl); intro _; exact do_neq rfl rfl trivial rfl; exact rfl
      apply sd_plain (hfree := rfl); intro _; exact do_pick_f rfl rfl; exact rfl
      apply sd_plain (hfree := rfl); intro _; exact do_move rfl; exact rfl
      have hne' : (T[i].pts == (T[(0 : Int).toNat]'(by simpa using h0T)).pts) = false := hne
      rw [hne']
      apply sd_guard (hfree := rfl) (hg := rfl) (hl := rfl); intro _; exact do_move rfl; exact rfl
      apply sd_guard (hfree := rfl) (hg := rfl) (hl := rfl); intro _; exact do_binInt rfl rfl rfl trivial; exact rfl
      apply sd_guard (hfree := rfl) (hg := rfl) (hl := rfl); intro _; exact do_move rfl; exact rfl
      apply sd_guard (hfree := rfl) (hg := rfl) (hl := rfl); intro _; exact do_move rfl; exact rfl
      apply sd_guard (hfree := rfl) (hg := rfl) (hl := rfl); intro _; exact do_binInt rfl rfl rfl trivial; exact rfl
      apply sd_guard (hfree := rfl) (hg := rfl) (hl := rfl); intro _; exact do_pick_t rfl rfl; exact rfl
      apply sd_plain (hfree := rfl); intro _; exact do_pick_f rfl rfl; exact rfl
      apply sd_nil
      refine ct_cond_f rfl rfl ?_
      apply ct_skip
      apply ct_region
      apply seq_plain; exact do_succ rfl (by omega); exact rfl
      apply seq_plain; exact do_move rfl; exact rfl
      apply seq_nil
      simp only [List.map_nil, List.append_nil]
      exact lt_to (by repeat (first | exact sub_nil | apply sub_cons rfl)) (.refl _) (ih' (i + 1) L7 (by omega) (by omega) fT fP fR)
    · obtain rfl : p = [] := List.length_eq_zero_iff.1 hpl
      have heq : (T[i].pts == T[0].pts) = true := by
        rw [beq_iff_eq]
        have h3 := title_top hp0
        have h4 : T[0].pts ∈ P := by
          rw [← ht0i]
          obtain ⟨u0, u1⟩ := (hrow 0 h0T).team
          have hlt : T[0].team.toNat < P.length := by omega
          rw [← ptL_eq hlt]
          exact List.getElem_mem hlt
        have := h3 _ h4
        rw [hti] at this
        omega
      have heq' : (T[i].pts == (T[(0 : Int).toNat]'(by simpa using h0T)).pts) = true := heq
      apply seq_plain; exact do_move rfl; exact rfl
      apply seq_plain; exact do_extract rfl rfl; exact rfl
      apply seq_plain; exact do_extract rfl rfl; exact rfl
      apply seq_plain; exact do_assign rfl; exact rfl
      apply seq_plain; exact do_assign rfl; exact rfl
      apply seq_nil
      apply ct_seq
      apply ct_draw (by assumption); decide +kernel
      apply sd_plain (hfree := rfl); intro _; exact do_move rfl; exact rfl
      apply sd_look (hfree := rfl); exact do_lenS rfl rfl rfl; exact rfl
      apply sd_plain (hfree := rfl); intro _; exact do_binInt rfl rfl rfl trivial; exact rfl
      apply sd_plain (hfree := rfl); intro _; exact do_move rfl; exact rfl
      apply sd_guard (hfree := rfl) (hg := rfl) (hl := rfl); intro _; exact do_move rfl; exact rfl
      apply sd_guard (hfree := rfl) (hg := rfl) (hl := rfl); intro _; exact do_binInt rfl rfl rfl trivial; exact rfl
      apply sd_guard (hfree := rfl) (hg := rfl) (hl := rfl); intro _; exact do_fieldAddr rfl rfl; exact rfl
      apply sd_guardL (hfree := rfl) (hg := rfl) (hl := rfl); exact do_load rfl (by exact ext_get_new (getApp (by assumption))) rfl (by exact rfl); exact rfl
      apply sd_guard (hfree := rfl) (hg := rfl) (hl := rfl); intro _; exact do_move rfl; exact rfl
      apply sd_guard (hfree := rfl) (hg := rfl) (hl := rfl); intro _; exact do_indexAddrS rfl rfl rfl (by exact idx_int (by omega)); exact rfl
      apply sd_guard (hfree := rfl) (hg := rfl) (hl := rfl); intro _; exact do_fieldAddr rfl rfl; exact rfl
      apply sd_guardL (hfree := rfl) (hg := rfl) (hl := rfl); exact do_load rfl (by exact ext_get_new (getApp (by assumption))) rfl (by exact pt_flat1 rw9_len (by omega) rfl); exact rfl
      apply sd_guard (hfree := rfl) (hg := rfl) (hl := rfl); intro _; exact do_binInt rfl rfl rfl trivial; exact rfl
      apply sd_guard (hfree := rfl) (hg := rfl) (hl := rfl); intro _; exact do_neq rfl rfl trivial rfl; exact rfl
      apply sd_plain (hfree := rfl); intro _; exact do_pick_f rfl rfl; exact rfl
      apply sd_plain (hfree := rfl); intro _; exact do_move rfl; exact rfl
      rw [heq']
      apply sd_guard (hfree := rfl) (hg := rfl) (hl := rfl); intro _; exact do_move rfl; exact rfl
      apply sd_guard (hfree := rfl) (hg := rfl) (hl := rfl); intro _; exact do_binInt rfl rfl rfl trivial; exact rfl
      apply sd_guard (hfree := rfl) (hg := rfl) (hl := rfl); intro _; exact do_move rfl; exact rfl
      apply sd_passed (hg := rfl) (hl := rfl) (hb := rfl); exact rfl
      apply sd_passed (hg := rfl) (hl := rfl) (hb := rfl); exact rfl
      apply sd_guard (hfree := rfl) (hg := rfl) (hl := rfl); intro _; exact do_pick_f rfl rfl; exact rfl
      apply sd_plain (hfree := rfl); intro _; exact do_pick_f rfl rfl; exact rfl
      apply sd_nil
      refine ct_cond_f rfl rfl ?_
      apply ct_skip
      apply ct_region
      apply seq_plain; exact do_succ rfl (by omega); exact rfl
      apply seq_plain; exact do_move rfl; exact rfl
      apply seq_nil
      simp only [List.map_nil, List.append_nil]
      exact lt_to (by repeat (first | exact sub_nil | apply sub_cons rfl)) (.refl _) (ih' (i + 1) L7 (by omega) (by omega) fT fP fR)
  have g1 : n = i := by simp only [decide_eq_false_iff_not] at g1; omega
  subst g1
  clear ih'
  apply ct_exit
  apply exit_eq; exact rfl
  apply ct_seq
  apply ct_region
  apply seq_call (ht := rfl); exact haw _ (ext_Ext hc); exact rfl
  apply seq_plain; exact do_assign rfl; exact rfl
  apply seq_nil
  apply ct_ret
  exact fin_flat hc rfl rfl ⟨rfl, rfl⟩
end Go.Proofs.YtppflopinmkpgaaDoor
