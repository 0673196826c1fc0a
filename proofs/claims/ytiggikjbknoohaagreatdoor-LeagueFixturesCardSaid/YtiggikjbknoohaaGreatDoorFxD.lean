/- LeagueFixtures: the law's walk and its contract over every input. -/
import Derived.Test.YtiggikjbknoohaaGreatDoorFxT
import Derived.Test.YtiggikjbknoohaaGreatDoorAwake
import Derived.Test.YtiggikjbknoohaaGreatDoorElJ
noncomputable section
namespace Go.Proofs.YtiggikjbknoohaaGreatDoor
open Go Go.Den Go.ChangeShapes Go.WideShapes Go.ChangeAt Go.RowKit Go.Deep
set_option maxRecDepth 100000

theorem fixtures70_bad {H : AHeap} {n : Int} (hb : outL n 2 24 = true) : Ret Tryz.prog 70 [I n] H (.tuple ⟨[.slice none 0 0, I 3]⟩) H := by
  have e : whenL (outL n 2 24) 3 = 3 := by simp [whenL, hb]
  refine fn_start Tryz.func70 rfl rfl rfl fun hc => ?_
  apply ct_seq
  apply ct_region
  apply seq_plain; exact do_assign rfl; exact rfl
  apply seq_plain; exact do_assign rfl; exact rfl
  apply seq_nil
  apply ct_seq
  apply ct_seq
  apply ct_region
  apply seq_plain; exact do_move rfl; exact rfl
  apply seq_call (ht := rfl); exact checkTeams145; exact rfl
  apply seq_plain; exact do_assign rfl; exact rfl
  apply seq_nil
  apply ct_seq
  apply ct_region
  apply seq_plain; exact do_move rfl; exact rfl
  apply seq_plain; exact do_binInt rfl rfl rfl trivial; exact rfl
  apply seq_nil
  rw [e]
  refine ct_cond_t rfl rfl ?_
  apply ct_seq
  apply ct_region
  apply seq_plain; exact do_move rfl; exact rfl
  apply seq_plain; exact do_assign rfl; exact rfl
  apply seq_plain; exact do_assign rfl; exact rfl
  apply seq_nil
  apply ct_ret
  exact fin_flat hc rfl rfl ⟨rfl, rfl⟩
theorem double71_bad {H : AHeap} {n : Int} (hb : outL n 2 24 = true) : Ret Tryz.prog 71 [I n] H (.tuple ⟨[.slice none 0 0, I 3]⟩) H := by
  have e : whenL (outL n 2 24) 3 = 3 := by simp [whenL, hb]
  refine fn_start Tryz.func71 rfl rfl rfl fun hc => ?_
  apply ct_seq
  apply ct_region
  apply seq_plain; exact do_assign rfl; exact rfl
  apply seq_plain; exact do_assign rfl; exact rfl
  apply seq_nil
  apply ct_seq
  apply ct_seq
  apply ct_region
  apply seq_plain; exact do_move rfl; exact rfl
  apply seq_call (ht := rfl); exact checkTeams145; exact rfl
  apply seq_plain; exact do_assign rfl; exact rfl
  apply seq_nil
  apply ct_seq
  apply ct_region
  apply seq_plain; exact do_move rfl; exact rfl
  apply seq_plain; exact do_binInt rfl rfl rfl trivial; exact rfl
  apply seq_nil
  rw [e]
  refine ct_cond_t rfl rfl ?_
  apply ct_seq
  apply ct_region
  apply seq_plain; exact do_move rfl; exact rfl
  apply seq_plain; exact do_assign rfl; exact rfl
  apply seq_plain; exact do_assign rfl; exact rfl
  apply seq_nil
  apply ct_ret
  exact fin_flat hc rfl rfl ⟨rfl, rfl⟩
theorem fixtures73_bad {H : AHeap} {q r : Option Addr} {n c m c' : Nat} {e x : Int} (hx : x ≠ 0) :
    Ret Tryz.prog 73 [.slice q n c, I e, I x, .slice r m c'] H (.bool (decide (n = 0) && (e == x))) H := by
  refine fn_start Tryz.func73 rfl rfl rfl fun hc => ?_
  apply ct_seq
  apply ct_region
  apply seq_plain; exact do_assign rfl; exact rfl
  apply seq_nil
  apply ct_seq
  apply ct_seq
  apply ct_region
  apply seq_plain; exact do_move rfl; exact rfl
  apply seq_plain; exact do_binInt rfl rfl rfl trivial; exact rfl
  apply seq_nil
  refine ct_cond_t rfl (by simpa using hx) ?_
  apply ct_seq
  apply ct_region
  apply seq_plain; exact do_move rfl; exact rfl
  apply seq_plain; exact do_lenS rfl rfl rfl; exact rfl
  apply seq_plain; exact do_binInt rfl rfl rfl trivial; exact rfl
  apply seq_plain; exact do_move rfl; exact rfl
  refine seq_gsplit rfl rfl (fun hb => ?_) (fun hb => ?_)
  · have hb : (((n : Int)) == 0) = true := hb
    have hn : n = 0 := by simpa using hb
    apply seq_guard (hd := rfl) (hl := rfl); exact do_move rfl; exact rfl
    apply seq_guard (hd := rfl) (hl := rfl); exact do_move rfl; exact rfl
    apply seq_guard (hd := rfl) (hl := rfl); exact do_binInt rfl rfl rfl trivial; exact rfl
    apply seq_plain; exact do_pick_t rfl rfl; exact rfl
    apply seq_plain; exact do_assign rfl; exact rfl
    apply seq_nil
    apply ct_ret
    refine fin_flat hc rfl rfl ⟨?_, rfl⟩
    simp [packA, hn]
  · have hb : (((n : Int)) == 0) = false := hb
    have hn : n ≠ 0 := by simpa using hb
    apply seq_passed (hd := rfl) (hl := rfl) (hb := rfl); exact rfl
    apply seq_passed (hd := rfl) (hl := rfl) (hb := rfl); exact rfl
    apply seq_passed (hd := rfl) (hl := rfl) (hb := rfl); exact rfl
    apply seq_plain; exact do_pick_f rfl rfl; exact rfl
    apply seq_plain; exact do_assign rfl; exact rfl
    apply seq_nil
    apply ct_ret
    refine fin_flat hc rfl rfl ⟨?_, rfl⟩
    simp [packA, hn]
theorem fixtures73 {H : AHeap} {p q : Option Addr} {c c' : Nat} {l m : List Fx} (hs : SlAt H 3 fx p l) (ht : SlAt H 3 fx q m) (hn : l.length < 1000000000000) :
    Ret Tryz.prog 73 [.slice p l.length c, I 0, I 0, .slice q m.length c'] H (.bool (sameFxB l m)) H := by
  refine fn_start Tryz.func73 rfl rfl rfl fun hc => ?_
  apply ct_seq
  apply ct_region
  apply seq_plain; exact do_assign rfl; exact rfl
  apply seq_nil
  apply ct_seq
  apply ct_seq
  apply ct_region
  apply seq_plain; exact do_move rfl; exact rfl
  apply seq_plain; exact do_binInt rfl rfl rfl trivial; exact rfl
  apply seq_nil
  refine ct_cond_f rfl rfl ?_
  apply ct_skip
  apply ct_seq
  apply ct_region
  apply seq_plain; exact do_move rfl; exact rfl
  apply seq_plain; exact do_binInt rfl rfl rfl trivial; exact rfl
  apply seq_plain; exact do_move rfl; exact rfl
  apply seq_guard (hd := rfl) (hl := rfl); exact do_move rfl; exact rfl
  refine seq_gcallQ rfl rfl rfl (own55 (hs.ext (ext_Ext hc)) hn) rfl (fun v h' hR => ?_)
  have hx : ∃ p c' L', v = .slice p l.length c' ∧ h' = ext H H.fresh L' ∧ SlAt (ext H H.fresh L') 3 fx p l := by
    rcases hR with ⟨rfl, rfl, rfl⟩ | ⟨rfl, rfl⟩
    · exact ⟨none, 0, [], rfl, rfl, .nil⟩
    · refine ⟨_, _, _, rfl, ext_add _, ?_⟩
      exact slAt_flat fx_len (ext_get_new rfl)
  obtain ⟨p', c2, L, rfl, rfl, hp⟩ := hx
  clear hR
  have ht1 : SlAt (ext H H.fresh L) 3 fx q m := ht.ext (ext_Ext hc)
  apply seq_guard (hd := rfl) (hl := rfl); exact do_move rfl; exact rfl
  apply seq_gcall (hg := rfl) (hl := rfl) (ht := rfl); exact sameFixtures_c hp ht1 hn; exact rfl
  apply seq_plain; exact do_pick_t rfl rfl; exact rfl
  apply seq_plain; exact do_assign rfl; exact rfl
  apply seq_nil
  apply ct_ret
  exact fin_flat hc rfl rfl ⟨rfl, rfl⟩

theorem law13 {H : AHeap} {n : Int} (haw : ∀ h, Ext H h → Ret Tryz.prog 17 [] h (.bool true) h) : Ret Tryz.prog 13 [I n] H (.bool true) H := by
  refine fn_start Tryz.func13 rfl rfl rfl fun hc => ?_
  apply ct_seq
  apply ct_region
  apply seq_plain; exact do_assign rfl; exact rfl
  apply seq_nil
  apply ct_seq
  apply ct_seq
  apply ct_region
  apply seq_call (ht := rfl); exact haw _ (ext_Ext hc); exact rfl
  apply seq_plain; exact do_unOp rfl rfl; exact rfl
  apply seq_nil
  refine ct_cond_f rfl rfl ?_
  by_cases hb : outL n 2 24 = true
  · have e : whenL (outL n 2 24) 3 = 3 := by simp [whenL, hb]
    apply ct_skip
    apply ct_seq
    apply ct_region
    apply seq_plain; exact do_move rfl; exact rfl
    apply seq_call (ht := rfl); exact fixtures70_bad hb; exact rfl
    apply seq_plain; exact do_move rfl; exact rfl
    apply seq_plain; exact do_extract rfl rfl; exact rfl
    apply seq_plain; exact do_extract rfl rfl; exact rfl
    apply seq_plain; exact do_assign rfl; exact rfl
    apply seq_plain; exact do_assign rfl; exact rfl
    apply seq_nil
    apply ct_seq
    apply ct_region
    apply seq_plain; exact do_move rfl; exact rfl
    apply seq_call (ht := rfl); exact double71_bad hb; exact rfl
    apply seq_plain; exact do_move rfl; exact rfl
    apply seq_plain; exact do_extract rfl rfl; exact rfl
    apply seq_plain; exact do_extract rfl rfl; exact rfl
    apply seq_plain; exact do_assign rfl; exact rfl
    apply seq_plain; exact do_assign rfl; exact rfl
    apply seq_nil
    apply ct_seq
    apply ct_region
    apply seq_plain; exact do_move rfl; exact rfl
    apply seq_call (ht := rfl); exact checkTeams72; exact rfl
    apply seq_plain; exact do_assign rfl; exact rfl
    apply seq_nil
    apply ct_seq
    apply ct_seq
    apply ct_region
    apply seq_plain; exact do_move rfl; exact rfl
    apply seq_plain; exact do_binInt rfl rfl rfl trivial; exact rfl
    apply seq_nil
    rw [e]
    refine ct_cond_t rfl rfl ?_
    apply ct_seq
    apply ct_region
    apply seq_plain; exact do_move rfl; exact rfl
    apply seq_plain; exact do_move rfl; exact rfl
    apply seq_plain; exact do_move rfl; exact rfl
    apply seq_call (ht := rfl); exact fixtures73_bad (by decide); exact rfl
    apply seq_plain; exact do_move rfl; exact rfl
    apply seq_guard (hd := rfl) (hl := rfl); exact do_move rfl; exact rfl
    apply seq_guard (hd := rfl) (hl := rfl); exact do_move rfl; exact rfl
    apply seq_guard (hd := rfl) (hl := rfl); exact do_move rfl; exact rfl
    apply seq_gcall (hg := rfl) (hl := rfl) (ht := rfl); exact fixtures73_bad (by decide); exact rfl
    apply seq_plain; exact do_pick_t rfl rfl; exact rfl
    apply seq_plain; exact do_assign rfl; exact rfl
    apply seq_nil
    apply ct_ret
    exact fin_flat hc rfl rfl ⟨rfl, rfl⟩
  · have hb : outL n 2 24 = false := by simpa using hb
    have hlo := outL_f hb
    obtain ⟨m, rfl⟩ := Int.eq_ofNat_of_zero_le (by omega : 0 ≤ n)
    have h2 : 2 ≤ m := by omega
    have h24 : m ≤ 24 := by omega
    have e : whenL (outL (m : Int) 2 24) 3 = 0 := by simp [whenL, hb]
    have hlF : (genF m).length < 1000000000000 := by
      have := gen_len (n := m) (r := evenN m - 1) (even_ge h2 h24).2.1 (by have := (even_ge h2 h24).2.1; omega)
      unfold genF; omega
    have hlD : (genD m).length < 1000000000000 := by
      have := gen_len (n := m) (r := evenN m - 1) (even_ge h2 h24).2.1 (by have := (even_ge h2 h24).2.1; omega)
      unfold genD
      rw [List.length_append, List.length_map]
      unfold genF; omega
    have c1 := fixtures_c (H := ext H H.fresh []) h2 h24
    rw [lstH_ext, ext_fresh] at c1
    apply ct_skip
    apply ct_seq
    apply ct_region
    apply seq_plain; exact do_move rfl; exact rfl
    apply seq_call (ht := rfl); exact c1; exact rfl
    obtain ⟨L1, hL1⟩ : ∃ L1, L1 = [] ++ lstL 3 fx (genF m) := ⟨_, rfl⟩
    have s1 : SlAt (ext H H.fresh L1) 3 fx (lstP (nb H 0) (genF m)) (genF m) := by rw [hL1]; exact lst_slAt (L := []) fx_len
    rw [← hL1]
    have c2 := double_c (H := ext H H.fresh L1) h2 h24
    rw [lstH_ext, ext_fresh] at c2
    apply seq_plain; exact do_move rfl; exact rfl
    apply seq_plain; exact do_extract rfl rfl; exact rfl
    apply seq_plain; exact do_extract rfl rfl; exact rfl
    apply seq_plain; exact do_assign rfl; exact rfl
    apply seq_plain; exact do_assign rfl; exact rfl
    apply seq_nil
    apply ct_seq
    apply ct_region
    apply seq_plain; exact do_move rfl; exact rfl
    apply seq_call (ht := rfl); exact c2; exact rfl
    obtain ⟨L2, hL2⟩ : ∃ L2, L2 = L1 ++ lstL 3 fx (genD m) := ⟨_, rfl⟩
    have s2 : SlAt (ext H H.fresh L2) 3 fx (lstP (nb H L1.length) (genD m)) (genD m) := by rw [hL2]; exact lst_slAt fx_len
    have s1 : SlAt (ext H H.fresh L2) 3 fx (lstP (nb H 0) (genF m)) (genF m) := by rw [hL2]; exact s1.ext (lst_Ext hc)
    rw [← hL2]
    apply seq_plain; exact do_move rfl; exact rfl
    apply seq_plain; exact do_extract rfl rfl; exact rfl
    apply seq_plain; exact do_extract rfl rfl; exact rfl
    apply seq_plain; exact do_assign rfl; exact rfl
    apply seq_plain; exact do_assign rfl; exact rfl
    apply seq_nil
    apply ct_seq
    apply ct_region
    apply seq_plain; exact do_move rfl; exact rfl
    apply seq_call (ht := rfl); exact checkTeams72; exact rfl
    apply seq_plain; exact do_assign rfl; exact rfl
    apply seq_nil
    apply ct_seq
    apply ct_seq
    apply ct_region
    apply seq_plain; exact do_move rfl; exact rfl
    apply seq_plain; exact do_binInt rfl rfl rfl trivial; exact rfl
    apply seq_nil
    rw [e]
    refine ct_cond_f rfl rfl ?_
    have c3 := refFixtures_c (H := ext H H.fresh L2) h2 h24
    rw [lstH_ext, ext_fresh] at c3
    apply ct_skip
    apply ct_seq
    apply ct_region
    apply seq_plain; exact do_move rfl; exact rfl
    apply seq_plain; exact do_move rfl; exact rfl
    apply seq_plain; exact do_move rfl; exact rfl
    apply seq_call (ht := rfl); exact c3; exact rfl
    obtain ⟨L3, hL3⟩ : ∃ L3, L3 = L2 ++ lstL 3 fx (genF m) := ⟨_, rfl⟩
    have s3 : SlAt (ext H H.fresh L3) 3 fx (lstP (nb H L2.length) (genF m)) (genF m) := by rw [hL3]; exact lst_slAt fx_len
    have s1 : SlAt (ext H H.fresh L3) 3 fx (lstP (nb H 0) (genF m)) (genF m) := by rw [hL3]; exact s1.ext (lst_Ext hc)
    have s2 : SlAt (ext H H.fresh L3) 3 fx (lstP (nb H L1.length) (genD m)) (genD m) := by rw [hL3]; exact s2.ext (lst_Ext hc)
    rw [← hL3]
    have c4 := fixtures73 (c := (genF m).length) (c' := (genF m).length) s1 s3 hlF
    rw [sameFx_iff.2 rfl] at c4
    skip
    apply seq_call (ht := rfl); exact c4; exact rfl
    have c5 := refDouble_c (H := ext H H.fresh L3) h2 h24
    rw [lstH_ext, ext_fresh] at c5
    apply seq_plain; exact do_move rfl; exact rfl
    apply seq_guard (hd := rfl) (hl := rfl); exact do_move rfl; exact rfl
    apply seq_guard (hd := rfl) (hl := rfl); exact do_move rfl; exact rfl
    apply seq_guard (hd := rfl) (hl := rfl); exact do_move rfl; exact rfl
    apply seq_gcall (hg := rfl) (hl := rfl) (ht := rfl); exact c5; exact rfl
    have s5 : SlAt (ext H H.fresh (L3 ++ lstL 3 fx (genD m))) 3 fx (lstP (nb H L3.length) (genD m)) (genD m) := lst_slAt fx_len
    have c6 := fixtures73 (c := (genD m).length) (c' := (genD m).length) (s2.ext (lst_Ext (L := L3) (f := fx) (m := 3) (l := genD m) hc)) s5 hlD
    rw [sameFx_iff.2 rfl] at c6
    skip
    apply seq_gcall (hg := rfl) (hl := rfl) (ht := rfl); exact c6; exact rfl
    apply seq_plain; exact do_pick_t rfl rfl; exact rfl
    apply seq_plain; exact do_assign rfl; exact rfl
    apply seq_nil
    apply ct_ret
    exact fin_flat hc rfl rfl ⟨rfl, rfl⟩

theorem fixtures_calls {W : World} (hB : BBok B0 W) {n : Int} :
    Calls Tryz.prog 13 ⟨[I n]⟩ W fun e W' => e = .returned (.bool true) ∧ Below W.heap.size W W' := by
  refine calls_of_callT (law13 (H := heapOf B0) (n := n) (fun h hE => awake17 (glo_ext (fun _ _ h => h) hE))) (fun u k hu => hu.1) rfl hB ?_
  exact .cons (.int _ _) .nil
theorem fixtures_contract (H : Type) (enc : TypeId × Value → H) (W : World) (base : Nat) (args : Array Value) (ds gs : List (DataW H)) (before : List MemPlace)
    (hval : ∀ (j : Nat) t v, Tryz.f13.params[j]? = some t → args[j]? = some v → Value.okWide Tryz.prog W .any base t v)
    (hW : DataW.Whole enc Tryz.prog Tryz.f13.params.toList Rows.leagueFixturesSpec.vars false W args.toList ds gs before) (hL : laidMetH Tryz.prog Rows.leagueFixturesRow.laid W) :
    Calls Tryz.prog 13 args W fun e W' => ∃ v, e = .returned v ∧ Rows.leagueFixturesSpec.post enc Tryz.prog Tryz.f13 false true false false W args v W' := by
  have hW' := hW
  obtain ⟨p, q, hA0, hV, rfl, hfz, hnd⟩ := hW
  have hA : DataW.TrodAll enc Tryz.prog W 0 (fun _ => true) true [3] args.toList ds p := hA0
  obtain ⟨v0, vs0, d0, ds0, p0, q0, hargs, rfl, rfl, h0, r0⟩ := trodAll_cons hA
  obtain ⟨rfl, rfl, rfl⟩ := trodAll_nil r0
  obtain rfl : args = #[v0] := by cases args; simp_all
  obtain ⟨rfl, rfl⟩ := trodVars_none hV
  obtain ⟨n, rfl, rfl, rfl, _⟩ := open_int (k := .i64) (show Tryz.prog.underlying 3 = some (.int .i64) from rfl) (hval 0 3 v0 rfl rfl) h0
  refine (fixtures_calls (bb0_ok hL) (n := n)).mono fun e W' ⟨he, hb⟩ => ?_
  exact ⟨_, he, law_post (tb := 4) (by kernel_rfl) rfl (by kernel_rfl) hW' rfl hb rfl (by first | exact Tryz.underlying4 | rfl)⟩
end Go.Proofs.YtiggikjbknoohaaGreatDoor
