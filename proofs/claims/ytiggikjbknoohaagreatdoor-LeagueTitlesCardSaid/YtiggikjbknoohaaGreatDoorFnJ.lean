/- LeagueChecks: the law's own walk. -/
import Derived.Test.YtiggikjbknoohaaGreatDoorFnI
noncomputable section
namespace Go.Proofs.YtiggikjbknoohaaGreatDoor
open Go Go.Den
set_option maxRecDepth 10000

theorem ext_snoc {H : AHeap} (hc : Closed H) {lo : Nat} {L : List (Option ABlk)} {x : ABlk} : Ext (ext H lo L) (ext H lo (L ++ [some x])) := by
  intro b y hb
  rw [ext_get hc] at hb ⊢
  split
  · rename_i h
    rw [if_pos h] at hb
    cases hL : L[b / 2 - H.next]? with
    | none => rw [hL] at hb; cases hb
    | some o => rw [getApp hL]; rw [hL] at hb; exact hb
  · rename_i h
    rw [if_neg h] at hb
    exact hb

structure LowL (q : Option Addr) (c : Nat) (l : List Fx) : Prop where
  cap : l.length ≤ c
  nil : q = none → l.length = 0 ∧ c = 0
  spot : ∀ a, q = some a → a.spot = none

set_option maxHeartbeats 1000000 in
theorem law10 {H : AHeap} {n : Int} {q : Option Addr} {c : Nat} {l : List Fx} (haw : ∀ h, Ext H h → Ret Tryz.prog 17 [] h (.bool true) h) (hs : SlAt H 3 fx q l) (hq : LowL q c l) :
    Ret Tryz.prog 10 [I n, .slice q l.length c] H (.bool true) H := by
  refine fn_start Tryz.func10 rfl rfl rfl fun hc => ?_
  apply ct_seq
  apply ct_region
  apply seq_plain; exact do_assign rfl; exact rfl
  apply seq_nil
  apply ct_seq
  apply ct_seq
  apply ct_region
  apply seq_call (ht := rfl); exact haw _ (ext_Ext hc); exact rfl
  apply seq_plain; exact do_unOp rfl rfl; exact rfl
  apply seq_plain; exact do_move rfl; exact rfl
  apply seq_guard (hd := rfl) (hl := rfl); exact do_move rfl; exact rfl
  apply seq_guard (hd := rfl) (hl := rfl); exact do_lenS rfl rfl rfl; exact rfl
  apply seq_guard (hd := rfl) (hl := rfl); exact do_binInt rfl rfl rfl trivial; exact rfl
  apply seq_plain; exact do_pick_f rfl rfl; exact rfl
  apply seq_plain; exact do_move rfl; exact rfl
  have hT : ∃ T : Bool, T = (decide ((l.length : Int) > 603) || (decide ((l.length : Int) > 140) && decide ((l.length : Int) ≤ 600))) := ⟨_, rfl⟩
  obtain ⟨T, hT⟩ := hT
  refine seq_J [(0, I n), (1, .slice q l.length c), (25, .bool T)] (ds := []) (h := ext H H.fresh []) ?_ ?_
  · refine seq_gsplit rfl rfl (fun u0 => ?_) (fun u0 => ?_)
    · have u0 : decide ((l.length : Int) > 603) = true := u0
      have e : T = true := by rw [hT, u0]; rfl
      rw [e]
      apply seq_passed (hd := rfl) (hl := rfl) (hb := rfl); exact rfl
      apply seq_passed (hd := rfl) (hl := rfl) (hb := rfl); exact rfl
      apply seq_passed (hd := rfl) (hl := rfl) (hb := rfl); exact rfl
      apply seq_passed (hd := rfl) (hl := rfl) (hb := rfl); exact rfl
      apply seq_passedU (hd := rfl) (hl := rfl); exact rfl
      apply seq_passedU (hd := rfl) (hl := rfl); exact rfl
      apply seq_passedU (hd := rfl) (hl := rfl); exact rfl
      apply seq_passed (hd := rfl) (hl := rfl) (hb := rfl); exact rfl
      apply seq_plain; exact do_pick_t rfl rfl; exact rfl
      apply seq_nil
      exact jp_of (by repeat (first | exact sub_nil | apply sub_cons rfl))
    · have u0 : decide ((l.length : Int) > 603) = false := u0
      apply seq_guard (hd := rfl) (hl := rfl); exact do_move rfl; exact rfl
      apply seq_guard (hd := rfl) (hl := rfl); exact do_lenS rfl rfl rfl; exact rfl
      apply seq_guard (hd := rfl) (hl := rfl); exact do_binInt rfl rfl rfl trivial; exact rfl
      apply seq_guard (hd := rfl) (hl := rfl); exact do_move rfl; exact rfl
      refine seq_gsplit rfl rfl (fun u1 => ?_) (fun u1 => ?_)
      · have u1 : decide ((l.length : Int) > 140) = true := u1
        have e : T = decide ((l.length : Int) ≤ 600) := by rw [hT, u0, u1]; simp
        rw [e]
        apply seq_guard (hd := rfl) (hl := rfl); exact do_move rfl; exact rfl
        apply seq_guard (hd := rfl) (hl := rfl); exact do_lenS rfl rfl rfl; exact rfl
        apply seq_guard (hd := rfl) (hl := rfl); exact do_binInt rfl rfl rfl trivial; exact rfl
        apply seq_guard (hd := rfl) (hl := rfl); exact do_pick_t rfl rfl; exact rfl
        apply seq_plain; exact do_pick_f rfl rfl; exact rfl
        apply seq_nil
        exact jp_of (by repeat (first | exact sub_nil | apply sub_cons rfl))
      · have u1 : decide ((l.length : Int) > 140) = false := u1
        have e : T = false := by rw [hT, u0, u1]; rfl
        rw [e]
        apply seq_passed (hd := rfl) (hl := rfl) (hb := rfl); exact rfl
        apply seq_passed (hd := rfl) (hl := rfl) (hb := rfl); exact rfl
        apply seq_passed (hd := rfl) (hl := rfl) (hb := rfl); exact rfl
        apply seq_guard (hd := rfl) (hl := rfl); exact do_pick_f rfl rfl; exact rfl
        apply seq_plain; exact do_pick_f rfl rfl; exact rfl
        apply seq_nil
        exact jp_of (by repeat (first | exact sub_nil | apply sub_cons rfl))
  skip
  refine ct_cond rfl (fun h1 => ?_) (fun h1 => ?_)
  · apply ct_seq
    apply ct_region
    apply seq_call (ht := rfl); exact haw _ (ext_Ext hc); exact rfl
    apply seq_plain; exact do_assign rfl; exact rfl
    apply seq_nil
    apply ct_ret
    exact fin_flat hc rfl rfl ⟨rfl, rfl⟩
  · have hn : l.length < 1000000000000 := by
      rw [h1] at hT
      have hT := hT.symm
      simp only [Bool.or_eq_false_iff, decide_eq_false_iff_not] at hT
      omega
    apply ct_skip
    apply ct_seq
    apply ct_region
    apply seq_plain; exact do_move rfl; exact rfl
    refine seq_callQ rfl (own55 (hs.ext (ext_Ext hc)) hn) rfl (fun v h' hR => ?_)
    have hx : ∃ p c' L', v = .slice p l.length c' ∧ h' = ext H H.fresh L' ∧ SlAt (ext H H.fresh L') 3 fx p l := by
      rcases hR with ⟨rfl, rfl, rfl⟩ | ⟨rfl, rfl⟩
      · exact ⟨none, 0, [], rfl, rfl, .nil⟩
      · refine ⟨_, _, _, rfl, ext_add _, ?_⟩
        exact slAt_flat fx_len (ext_get_new rfl)
    obtain ⟨p, c', L, rfl, rfl, hp⟩ := hx
    clear hR
    have hs1 : SlAt (ext H H.fresh L) 3 fx q l := hs.ext (ext_Ext hc)
    by_cases hbad : chkL n l = 0
    · have hg0 := chk_good hbad
      obtain ⟨m, rfl⟩ := Int.eq_ofNat_of_zero_le (by have := hg0.lo; omega : 0 ≤ n)
      have hm : m ≤ 24 := by have := hg0.hi; omega
      have c1 := homes56 hs1 hn hq.cap hq.nil hq.spot hbad
      rw [ext_add, ext_fresh] at c1
      apply seq_plain; exact do_assign rfl; exact rfl
      apply seq_nil
      apply ct_seq
      apply ct_region
      apply seq_plain; exact do_move rfl; exact rfl
      apply seq_plain; exact do_move rfl; exact rfl
      apply seq_call (ht := rfl); exact c1; exact rfl
      apply seq_plain; exact do_move rfl; exact rfl
      apply seq_plain; exact do_extract rfl rfl; exact rfl
      apply seq_plain; exact do_extract rfl rfl; exact rfl
      apply seq_plain; exact do_assign rfl; exact rfl
      apply seq_plain; exact do_assign rfl; exact rfl
      apply seq_nil
      apply ct_seq
      apply ct_region
      apply seq_plain; exact do_move rfl; exact rfl
      apply seq_plain; exact do_move rfl; exact rfl
      have g1 : (ext H H.fresh (L ++ [some (ABlk.cells ((tally l (List.replicate m 0)).map I) 1 false false)])).get (nb H L.length) = some (.cells ((tally l (List.replicate m 0)).map I) 1 false false) := ext_get_new List.getElem?_concat_length
      have e1 := ext_snoc (H := H) hc (lo := H.fresh) (L := L) (x := .cells ((tally l (List.replicate m 0)).map I) 1 false false)
      have hp1 := hp.ext e1
      have hs2 := hs1.ext e1
      apply seq_call (ht := rfl); exact checkList57 hp1 hn; exact rfl
      apply seq_plain; exact do_assign rfl; exact rfl
      apply seq_nil
      apply ct_seq
      apply ct_seq
      apply ct_region
      apply seq_plain; exact do_move rfl; exact rfl
      apply seq_plain; exact do_move rfl; exact rfl
      apply seq_call (ht := rfl); exact checkFixtures58 hs2 hn hq.cap hq.nil hq.spot hbad; exact rfl
      apply seq_plain; exact do_move rfl; exact rfl
      apply seq_plain; exact do_move rfl; exact rfl
      apply seq_call (ht := rfl); exact checkFixtures59 hp1 hn hbad; exact rfl
      apply seq_plain; exact do_binInt rfl rfl rfl trivial; exact rfl
      apply seq_nil
      refine ct_cond_f rfl ?_ ?_
      · rw [met_law hm hg0.each]; simp
      apply ct_skip
      apply ct_seq
      apply ct_seq
      apply ct_region
      apply seq_plain; exact do_move rfl; exact rfl
      apply seq_plain; exact do_binInt rfl rfl rfl trivial; exact rfl
      apply seq_nil
      refine ct_cond_f rfl (by simp [hbad]) ?_
      apply ct_skip
      apply ct_seq
      apply ct_region
      apply seq_plain; exact do_move rfl; exact rfl
      apply seq_plain; exact do_move rfl; exact rfl
      apply seq_plain; exact do_move rfl; exact rfl
      apply seq_plain; exact do_move rfl; exact rfl
      have c2 := homes60 (c := c') hp1 hn hm (fun x hx => (hg0.each x hx).1)
      rw [ext_add, ext_fresh] at c2
      have hlt : (tally l (List.replicate m 0)).length = m := by rw [tally_len]; simp
      apply seq_call (ht := rfl); exact c2; exact rfl
      skip
      have k1 : SlAt (ext H H.fresh (L ++ [some (ABlk.cells ((tally l (List.replicate m 0)).map I) 1 false false)] ++ [some (ABlk.cells ((tally l (List.replicate m 0)).map I) 1 false false)])) 1 i1 (some ⟨nb H L.length, 0, none⟩) (tally l (List.replicate m 0)) := slAt_map (g := I) (ext_get_new (getApp List.getElem?_concat_length))
      have k2 : SlAt (ext H H.fresh (L ++ [some (ABlk.cells ((tally l (List.replicate m 0)).map I) 1 false false)] ++ [some (ABlk.cells ((tally l (List.replicate m 0)).map I) 1 false false)])) 1 i1 (some ⟨nb H (L ++ [some (ABlk.cells ((tally l (List.replicate m 0)).map I) 1 false false)]).length, 0, none⟩) (tally l (List.replicate m 0)) := slAt_map (g := I) (ext_get_new List.getElem?_concat_length)
      have c3 := list27 (c := m) (c' := m) k1 k2 (by omega)
      rw [hlt] at c3
      apply seq_call (ht := rfl); exact c3; exact rfl
      apply seq_plain; exact do_assign rfl; exact rfl
      apply seq_nil
      apply ct_ret
      exact fin_flat hc rfl rfl ⟨by simp [packA], rfl⟩
    · apply seq_plain; exact do_assign rfl; exact rfl
      apply seq_nil
      apply ct_seq
      apply ct_region
      apply seq_plain; exact do_move rfl; exact rfl
      apply seq_plain; exact do_move rfl; exact rfl
      apply seq_call (ht := rfl); exact homes56_bad hs1 hn hq.cap hq.nil hq.spot hbad; exact rfl
      apply seq_plain; exact do_move rfl; exact rfl
      apply seq_plain; exact do_extract rfl rfl; exact rfl
      apply seq_plain; exact do_extract rfl rfl; exact rfl
      apply seq_plain; exact do_assign rfl; exact rfl
      apply seq_plain; exact do_assign rfl; exact rfl
      apply seq_nil
      apply ct_seq
      apply ct_region
      apply seq_plain; exact do_move rfl; exact rfl
      apply seq_plain; exact do_move rfl; exact rfl
      apply seq_call (ht := rfl); exact checkList57 hp hn; exact rfl
      apply seq_plain; exact do_assign rfl; exact rfl
      apply seq_nil
      apply ct_seq
      apply ct_seq
      apply ct_region
      apply seq_plain; exact do_move rfl; exact rfl
      apply seq_plain; exact do_move rfl; exact rfl
      apply seq_call (ht := rfl); exact checkFixtures58_bad hs1 hn hq.cap hq.nil hq.spot hbad; exact rfl
      apply seq_plain; exact do_move rfl; exact rfl
      apply seq_plain; exact do_move rfl; exact rfl
      apply seq_call (ht := rfl); exact checkFixtures59_bad hp hn hbad; exact rfl
      apply seq_plain; exact do_binInt rfl rfl rfl trivial; exact rfl
      apply seq_nil
      refine ct_cond_f rfl (by simp) ?_
      apply ct_skip
      apply ct_seq
      apply ct_seq
      apply ct_region
      apply seq_plain; exact do_move rfl; exact rfl
      apply seq_plain; exact do_binInt rfl rfl rfl trivial; exact rfl
      apply seq_nil
      refine ct_cond_t rfl (by simpa using hbad) ?_
      apply ct_seq
      apply ct_region
      apply seq_plain; exact do_move rfl; exact rfl
      apply seq_plain; exact do_move rfl; exact rfl
      apply seq_plain; exact do_move rfl; exact rfl
      apply seq_call (ht := rfl); exact list27_bad (n := 0) hbad; exact rfl
      apply seq_plain; exact do_assign rfl; exact rfl
      apply seq_nil
      apply ct_ret
      exact fin_flat hc rfl rfl ⟨by simp [packA], rfl⟩
