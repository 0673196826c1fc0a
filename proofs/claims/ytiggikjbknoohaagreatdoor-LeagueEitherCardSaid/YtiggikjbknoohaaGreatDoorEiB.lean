/- LeagueEither: the law's own walk. -/
import Derived.Test.YtiggikjbknoohaaGreatDoorEiA
import Derived.Test.YtiggikjbknoohaaGreatDoorSxT
noncomputable section
namespace Go.Proofs.YtiggikjbknoohaaGreatDoor
open Go Go.Den Go.Den.Title
set_option maxRecDepth 100000

theorem bestTo_hd {pts : List Int} {opn : List (Int × Int)} {team : Int} : (bestL pts opn team).isEmpty = true ↔ bestL pts opn team = [] := by
  cases bestL pts opn team <;> simp
def someTo (pts : List Int) (opn : List (Int × Int)) (i : Nat) : Bool := (List.range i).any fun (j : Nat) => (bestL pts opn j).isEmpty
theorem someTo_succ {pts : List Int} {opn : List (Int × Int)} {i : Nat} : someTo pts opn (i + 1) = (someTo pts opn i || (bestL pts opn i).isEmpty) := by
  simp [someTo, List.range_succ]

set_option maxHeartbeats 16000000 in
theorem law14 {H : AHeap} {q r : Option Addr} {c d : Nat} {pts : List Int} {opn : List (Int × Int)} (haw : ∀ h, Ext H h → Ret Tryz.prog 17 [] h (.bool true) h) (hs : SlAt H 1 i1 q pts) (hx : SlX H 2 p2 r d opn) :
    Ret Tryz.prog 14 [Rv q pts.length c r opn.length d] H (.bool true) H := by
  have ht := hx.at_
  refine fn_start Tryz.func14 rfl rfl rfl fun hc => ?_
  apply ct_seq
  apply ct_region
  apply seq_newP; exact do_box rfl rfl rfl; exact rfl
  apply seq_plain; exact do_assign rfl; exact rfl
  apply seq_nil
  apply ct_seq
  apply ct_region
  apply seq_plain; exact do_load rfl (by exact ext_get_new rfl) rfl (by exact rfl); exact rfl
  apply seq_newP; exact do_alloc rfl rfl; exact rfl
  apply seq_putC (hc := by assumption); rotate_left; exact do_store rfl rfl (by exact ext_get_new rfl) rfl rfl (nb_own _); rotate_left; exact Nat.le_of_ble_eq_true rfl
  apply ct_seq
  apply ct_seq
  apply ct_region
  apply seq_call (ht := rfl); exact haw _ (ext_Ext hc); exact rfl
  apply seq_plain; exact do_unOp rfl rfl; exact rfl
  apply seq_plain; exact do_move rfl; exact rfl
  apply seq_guard (hd := rfl) (hl := rfl); exact do_fieldAddr rfl rfl; exact rfl
  apply seq_guard (hd := rfl) (hl := rfl); exact do_load rfl (by exact ext_get_new rfl) rfl (by exact rfl); exact rfl
  apply seq_guard (hd := rfl) (hl := rfl); exact do_lenS rfl rfl rfl; exact rfl
  apply seq_guard (hd := rfl) (hl := rfl); exact do_binInt rfl rfl rfl trivial; exact rfl
  apply seq_plain; exact do_pick_f rfl rfl; exact rfl
  apply seq_plain; exact do_move rfl; exact rfl
  have hT : ∃ T : Bool, T = (decide ((pts.length : Int) > 6) || (decide ((opn.length : Int) > 12) || decide (raceL pts opn ≠ 0))) := ⟨_, rfl⟩
  obtain ⟨T, hT⟩ := hT
  refine seq_J [(1, .pointer (some ⟨nb H 0, 0, none⟩)), (3, .pointer (some ⟨nb H 1, 0, none⟩)), (39, .bool T)] (ds := []) (h := ext H H.fresh [some (.cells [.slice q pts.length c, .slice r opn.length d] 0 false false), some (.cells [.slice q pts.length c, .slice r opn.length d] 0 false false)]) ?_ ?_
  · refine seq_gsplit rfl rfl (fun u0 => ?_) (fun u0 => ?_)
    · have u0 : decide ((pts.length : Int) > 6) = true := u0
      have e : T = true := by rw [hT, u0]; rfl
      rw [e]
      apply seq_passed (hd := rfl) (hl := rfl) (hb := rfl); exact rfl
      apply seq_passed (hd := rfl) (hl := rfl) (hb := rfl); exact rfl
      apply seq_passed (hd := rfl) (hl := rfl) (hb := rfl); exact rfl
      apply seq_passed (hd := rfl) (hl := rfl) (hb := rfl); exact rfl
      apply seq_plain; exact do_pick_t rfl rfl; exact rfl
      apply seq_plain; exact do_move rfl; exact rfl
      apply seq_passed (hd := rfl) (hl := rfl) (hb := rfl); exact rfl
      apply seq_passed (hd := rfl) (hl := rfl) (hb := rfl); exact rfl
      apply seq_passed (hd := rfl) (hl := rfl) (hb := rfl); exact rfl
      apply seq_plain; exact do_pick_t rfl rfl; exact rfl
      apply seq_nil
      exact jp_of (by repeat (first | exact sub_nil | apply sub_cons rfl))
    · have u0 : decide ((pts.length : Int) > 6) = false := u0
      apply seq_guard (hd := rfl) (hl := rfl); exact do_fieldAddr rfl rfl; exact rfl
      apply seq_guard (hd := rfl) (hl := rfl); exact do_load rfl (by exact ext_get_new rfl) rfl (by exact rfl); exact rfl
      apply seq_guard (hd := rfl) (hl := rfl); exact do_lenS rfl rfl rfl; exact rfl
      apply seq_guard (hd := rfl) (hl := rfl); exact do_binInt rfl rfl rfl trivial; exact rfl
      apply seq_plain; exact do_pick_f rfl rfl; exact rfl
      apply seq_plain; exact do_move rfl; exact rfl
      refine seq_gsplit rfl rfl (fun u1 => ?_) (fun u1 => ?_)
      · have u1 : decide ((opn.length : Int) > 12) = true := u1
        have e : T = true := by rw [hT, u0, u1]; rfl
        rw [e]
        apply seq_passed (hd := rfl) (hl := rfl) (hb := rfl); exact rfl
        apply seq_passed (hd := rfl) (hl := rfl) (hb := rfl); exact rfl
        apply seq_passed (hd := rfl) (hl := rfl) (hb := rfl); exact rfl
        apply seq_plain; exact do_pick_t rfl rfl; exact rfl
        apply seq_nil
        exact jp_of (by repeat (first | exact sub_nil | apply sub_cons rfl))
      · have u1 : decide ((opn.length : Int) > 12) = false := u1
        have e : T = (raceL pts opn != 0) := by rw [hT, u0, u1]; by_cases h : raceL pts opn = 0 <;> simp [h]
        rw [e]
        simp only [decide_eq_false_iff_not] at u0 u1
        apply seq_guard (hd := rfl) (hl := rfl); exact do_load rfl (by exact ext_get_new rfl) rfl (by exact rfl); exact rfl
        apply seq_gcall (hg := rfl) (hl := rfl) (ht := rfl); exact refRace_c (hs.ext (ext_Ext hc)) (ht.ext (ext_Ext hc)) (by omega) (by omega); exact rfl
        apply seq_guard (hd := rfl) (hl := rfl); exact do_binInt rfl rfl rfl trivial; exact rfl
        apply seq_plain; exact do_pick_f rfl rfl; exact rfl
        apply seq_nil
        exact jp_of (by repeat (first | exact sub_nil | apply sub_cons rfl))
  skip
  refine ct_cond rfl (fun h1 => ?_) (fun h1 => ?_)
  · apply ct_seq
    apply ct_region
    apply seq_call (ht := rfl); exact haw _ (ext_Ext hc); exact rfl
    apply seq_plain; exact do_assign rfl; exact rfl
    apply seq_nil
    apply ct_ret
    exact fin_flat hc rfl rfl ⟨rfl, rfl⟩
  · have hn : pts.length ≤ 6 ∧ opn.length ≤ 12 ∧ raceL pts opn = 0 := by
      rw [h1] at hT
      have hT := hT.symm
      simp only [Bool.or_eq_false_iff, decide_eq_false_iff_not] at hT
      refine ⟨by omega, by omega, by simpa using hT.2.2⟩
    obtain ⟨hn1, hn2, hr0⟩ := hn
    have hg := race_good hr0
    have hlo := hg.lo
    clear hT
    apply ct_skip
    apply ct_seq
    apply ct_region
    apply seq_plain; exact do_assign rfl; exact rfl
    apply seq_plain; exact do_assign rfl; exact rfl
    apply seq_nil
    apply ct_seq
    apply ct_seq
    apply ct_region
    apply seq_plain; exact do_fieldAddr rfl rfl; exact rfl
    apply seq_plain; exact do_load rfl (by exact ext_get_new rfl) rfl (by exact rfl); exact rfl
    apply seq_plain; exact do_lenS rfl rfl rfl; exact rfl
    apply seq_plain; exact do_move rfl; exact rfl
    apply seq_nil
    apply ct_block
    apply ct_loop
    refine lt_meas (α := Nat × Nat) (fun a => [(1, .pointer (some ⟨nb H 0, 0, none⟩)), (3, .pointer (some ⟨nb H 1, 0, none⟩)), (4, .bool false), (5, I a.2), (43, I pts.length), (44, I a.1)]) (fun _ => ext H H.fresh [some (.cells [.slice q pts.length c, .slice r opn.length d] 0 false false), some (.cells [.slice q pts.length c, .slice r opn.length d] 0 false false)])
      (fun a => a.1 ≤ pts.length ∧ a.2 < pts.length ∧ ∀ j : Nat, j < a.1 → ptL pts j ≤ ptL pts a.2) (fun a => pts.length - a.1) (fun a ha ih => ?_) (0, 0) ⟨by simp, by simp; omega, by intros; omega⟩ (by repeat (first | exact sub_nil | apply sub_cons rfl)) (.refl _)
    obtain ⟨i, best⟩ := a
    obtain ⟨hi, hb, hJ⟩ := ha
    simp only at hi hb hJ ih ⊢
    have ih' := fun i' b' a1 a2 a3 a4 => ih (i', b') a1 ⟨a2, a3, a4⟩
    simp only at ih'
    clear ih
    apply ct_seq
    apply ct_region
    apply seq_plain; exact do_binInt rfl rfl rfl trivial; exact rfl
    apply seq_nil
    apply ct_seq
    refine ct_cond rfl (fun h2 => ?_) (fun h2 => ?_)
    · simp only [decide_eq_true_eq, Int.ofNat_lt] at h2
      obtain ⟨b, o, cs, z, s, ro, rfl, hgp, hw⟩ := hs.out (by intro e; rw [e] at h2; simp at h2)
      have e1 : ptL pts i = pts[i] := by simp [ptL, h2]
      have e2 : ptL pts best = pts[best] := by simp [ptL, hb]
      apply ct_skip
      apply ct_seq
      apply ct_block
      apply ct_seq
      apply ct_region
      apply seq_plain; exact do_move rfl; exact rfl
      apply seq_plain; exact do_assign rfl; exact rfl
      apply seq_nil
      apply ct_seq
      apply ct_draw (by assumption); decide +kernel
      apply sd_plain (hfree := rfl); intro _; exact do_fieldAddr rfl rfl; exact rfl
      apply sd_look (hfree := rfl); exact do_load rfl (by exact ext_get_new rfl) rfl (by exact rfl); exact rfl
      apply sd_plain (hfree := rfl); intro _; exact do_move rfl; exact rfl
      apply sd_plain (hfree := rfl); intro _; exact do_indexAddrS rfl rfl rfl (by exact idx_nat (by omega)); exact rfl
      apply sd_look (hfree := rfl); exact do_load rfl (by exact ext_get_old (by assumption) (by assumption)) rfl (by exact pt_sl0 (by assumption) (by omega)); exact rfl
      apply sd_plain (hfree := rfl); intro _; exact do_fieldAddr rfl rfl; exact rfl
      apply sd_look (hfree := rfl); exact do_load rfl (by exact ext_get_new rfl) rfl (by exact rfl); exact rfl
      apply sd_plain (hfree := rfl); intro _; exact do_move rfl; exact rfl
      apply sd_plain (hfree := rfl); intro _; exact do_indexAddrS rfl rfl rfl (by exact idx_nat (by omega)); exact rfl
      apply sd_look (hfree := rfl); exact do_load rfl (by exact ext_get_old (by assumption) (by assumption)) rfl (by exact pt_sl0 (by assumption) (by omega)); exact rfl
      apply sd_plain (hfree := rfl); intro _; exact do_binInt rfl rfl rfl trivial; exact rfl
      apply sd_nil
      refine ct_cond rfl (fun h3 => ?_) (fun h3 => ?_)
      · simp only [decide_eq_true_eq] at h3
        apply ct_region
        apply seq_plain; exact do_move rfl; exact rfl
        apply seq_plain; exact do_assign rfl; exact rfl
        apply seq_nil
        apply ct_region
        apply seq_plain; exact do_succ rfl (by omega); exact rfl
        apply seq_plain; exact do_move rfl; exact rfl
        apply seq_nil
        refine lt_sub (by repeat (first | exact sub_nil | apply sub_cons rfl)) (ih' (i + 1) i (by omega) (by omega) h2 fun j hj => ?_)
        rcases Nat.lt_or_ge j i with h | h
        · have := hJ j h; omega
        · have : j = i := by omega
          subst this; omega
      · simp only [decide_eq_false_iff_not] at h3
        apply ct_skip
        apply ct_region
        apply seq_plain; exact do_succ rfl (by omega); exact rfl
        apply seq_plain; exact do_move rfl; exact rfl
        apply seq_nil
        refine lt_sub (by repeat (first | exact sub_nil | apply sub_cons rfl)) (ih' (i + 1) best (by omega) (by omega) hb fun j hj => ?_)
        rcases Nat.lt_or_ge j i with h | h
        · exact hJ j h
        · have : j = i := by omega
          subst this; omega
    · simp only [decide_eq_false_iff_not, Int.ofNat_lt] at h2
      have htop : ∀ s : Int, 0 ≤ s → s < pts.length → ptL pts s ≤ ptL pts best := fun s a b => by
        have := hJ s.toNat (by omega)
        rwa [Int.toNat_of_nonneg a] at this
      clear ih' hJ
      apply ct_exit
      apply exit_eq; exact rfl
      apply ct_seq
      apply ct_seq
      apply ct_region
      apply seq_plain; exact do_fieldAddr rfl rfl; exact rfl
      apply seq_plain; exact do_load rfl (by exact ext_get_new rfl) rfl (by exact rfl); exact rfl
      apply seq_plain; exact do_lenS rfl rfl rfl; exact rfl
      apply seq_plain; exact do_move rfl; exact rfl
      apply seq_nil
      apply ct_block
      apply ct_loop
      refine lt_upB hc (fun i => [(1, .pointer (some ⟨nb H 0, 0, none⟩)), (3, .pointer (some ⟨nb H 1, 0, none⟩)), (4, .bool (someTo pts opn i)), (5, I best), (62, I pts.length), (63, I i)]) (fun _ => True) pts.length (fun i h lo hc' hE0 hi _ ih => ?_) 0 (by omega) trivial (by repeat (first | exact sub_nil | apply sub_cons rfl))
      have hE := (ext_Ext hc).trans hE0
      have hb0 := hE0 _ _ (ext_get_new (k := 0) rfl)
      have hb1 := hE0 _ _ (ext_get_new (k := 1) rfl)
      clear hE0
      apply ct_seq
      apply ct_region
      apply seq_plain; exact do_binInt rfl rfl rfl trivial; exact rfl
      apply seq_nil
      apply ct_seq
      refine ct_cond rfl (fun h3 => ?_) (fun h3 => ?_)
      · simp only [decide_eq_true_eq, Int.ofNat_lt] at h3
        have hok : chkR pts opn i = 0 := chk_zero hg (by omega) (by omega)
        have hs1 := hs.ext hE
        have ht1 := ht.ext hE
        apply ct_skip
        apply ct_seq
        apply ct_block
        apply ct_seq
        apply ct_region
        apply seq_plain; exact do_move rfl; exact rfl
        apply seq_plain; exact do_assign rfl; exact rfl
        apply seq_nil
        apply ct_seq
        apply ct_region
        apply seq_plain; exact do_load rfl (by exact ext_get_old (by assumption) (by assumption)) rfl (by exact rfl); exact rfl
        apply seq_plain; exact do_move rfl; exact rfl
        refine seq_callQ rfl (title_c (hs1.ext (ext_Ext hc')) (ht1.ext (ext_Ext hc')) hok) rfl (fun v hh hv => ?_)
        have c1 : ∀ L, Ret Tryz.prog 64 [Rv q pts.length c r opn.length d, I i] (ext h lo L) (.tuple ⟨[lstV (nb h L.length) (bestL pts opn i), I (whenL (bestL pts opn i).isEmpty 7)]⟩) (ext h lo (L ++ lstL 1 i1 (bestL pts opn i))) := fun L => by
          have := eliminated_c (c := c) (d := d) (hs1.ext (ext_Ext hc' (lo := lo) (L := L))) (ht1.ext (ext_Ext hc')) hok (by omega)
          rw [lstH_ext, ext_fresh] at this
          exact this
        rcases hv with ⟨hbe, rfl, rfl⟩ | ⟨hbe, p, ht0, hpl, rfl, rfl⟩
        · have hne : (bestL pts opn i).isEmpty = false := by
            cases hq : bestL pts opn i with
            | nil => exact absurd hq hbe
            | cons _ _ => rfl
          have hse := setE_best (pts := pts) (opn := opn) (team := i) (by omega) (by omega) hbe
          have hsl := bestTo_len (pts := pts) (opn := opn) (team := i) (2 ^ pts.length)
          apply seq_plain; exact do_move rfl; exact rfl
          apply seq_plain; exact do_extract rfl rfl; exact rfl
          apply seq_plain; exact do_extract rfl rfl; exact rfl
          apply seq_plain; exact do_assign rfl; exact rfl
          apply seq_plain; exact do_assign rfl; exact rfl
          apply seq_nil
          apply ct_seq
          apply ct_region
          apply seq_plain; exact do_load rfl (by exact ext_get_old (by assumption) (by assumption)) rfl (by exact rfl); exact rfl
          apply seq_plain; exact do_move rfl; exact rfl
          apply seq_call (ht := rfl); exact c1 _; exact rfl
          apply seq_plain; exact do_move rfl; exact rfl
          apply seq_plain; exact do_extract rfl rfl; exact rfl
          apply seq_plain; exact do_extract rfl rfl; exact rfl
          apply seq_plain; exact do_assign rfl; exact rfl
          apply seq_plain; exact do_assign rfl; exact rfl
          apply seq_nil
          apply ct_seq
          apply ct_seq
          apply ct_region
          apply seq_plain; exact do_move rfl; exact rfl
          apply seq_plain; exact do_binInt rfl rfl rfl trivial; exact rfl
          apply seq_nil
          rw [hne]
          refine ct_cond_f rfl rfl ?_
          have eel : elimE pts opn i (bestL pts opn i) = 0 := by
            unfold elimE
            rw [if_neg (by simp [hok])]
            exact hse
          have eset : setE pts opn i (bestL pts opn i) = 0 := hse
          have e4 : someTo pts opn (i + 1) = someTo pts opn i := by rw [someTo_succ, hne, Bool.or_false]
          have hsl : (bestL pts opn i).length ≤ pts.length := hsl
          apply ct_seq
          apply ct_region
          apply seq_plain; exact do_move rfl; exact rfl
          apply seq_plain; exact do_binInt rfl rfl rfl trivial; exact rfl
          apply seq_plain; exact do_move rfl; exact rfl
          apply seq_guard (hd := rfl) (hl := rfl); exact do_move rfl; exact rfl
          apply seq_guard (hd := rfl) (hl := rfl); exact do_binInt rfl rfl rfl trivial; exact rfl
          apply seq_plain; exact do_pick_f rfl rfl; exact rfl
          apply seq_plain; exact do_move rfl; exact rfl
          apply seq_guard (hd := rfl) (hl := rfl); exact do_load rfl (by exact ext_get_old (by assumption) (by assumption)) rfl (by exact rfl); exact rfl
          apply seq_guard (hd := rfl) (hl := rfl); exact do_move rfl; exact rfl
          apply seq_guard (hd := rfl) (hl := rfl); exact do_move rfl; exact rfl
          apply seq_gcall (hg := rfl) (hl := rfl) (ht := rfl); exact checkEliminated_c (set := bestL pts opn i) (hs1.ext (ext_Ext hc')) (ht1.ext (ext_Ext hc')) (lst_slAt (m := 1) (f := i1) fun _ => rfl) (by omega) (by omega) (by omega); exact rfl
          rw [eel]
          apply seq_guard (hd := rfl) (hl := rfl); exact do_binInt rfl rfl rfl trivial; exact rfl
          apply seq_plain; exact do_pick_f rfl rfl; exact rfl
          apply seq_plain; exact do_move rfl; exact rfl
          apply seq_guard (hd := rfl) (hl := rfl); exact do_load rfl (by exact ext_get_old (by assumption) (by assumption)) rfl (by exact rfl); exact rfl
          apply seq_guard (hd := rfl) (hl := rfl); exact do_move rfl; exact rfl
          apply seq_guard (hd := rfl) (hl := rfl); exact do_move rfl; exact rfl
          apply seq_gcall (hg := rfl) (hl := rfl) (ht := rfl); exact refCheckEliminated_c (set := bestL pts opn i) (hs1.ext (ext_Ext hc')) (ht1.ext (ext_Ext hc')) (lst_slAt (m := 1) (f := i1) fun _ => rfl) hg (by omega) (by omega) (by omega); exact rfl
          rw [eset]
          apply seq_guard (hd := rfl) (hl := rfl); exact do_binInt rfl rfl rfl trivial; exact rfl
          apply seq_plain; exact do_pick_f rfl rfl; exact rfl
          apply seq_nil
          refine ct_cond_f rfl rfl ?_
          apply ct_skip
          apply ct_seq
          apply ct_seq
          apply ct_region
          apply seq_plain; exact do_move rfl; exact rfl
          apply seq_plain; exact do_move rfl; exact rfl
          apply seq_plain; exact do_binInt rfl rfl rfl trivial; exact rfl
          apply seq_plain; exact do_move rfl; exact rfl
          refine seq_J [(1, .pointer (some ⟨nb H 0, 0, none⟩)), (3, .pointer (some ⟨nb H 1, 0, none⟩)), (4, .bool (someTo pts opn i)), (5, I best), (7, I i), (9, I 23), (62, I pts.length), (63, I i), (130, .bool ((i : Int) == best))] (ds := []) (h := ext h lo ([] ++ lstL 1 i1 (bestL pts opn i))) ?_ ?_
          · refine seq_gsplit rfl rfl (fun u1 => ?_) (fun u1 => ?_)
            · have u1 : ((i : Int) == best) = true := u1
              rw [u1]
              apply seq_guard (hd := rfl) (hl := rfl); exact do_move rfl; exact rfl
              apply seq_guard (hd := rfl) (hl := rfl); exact do_binInt rfl rfl rfl trivial; exact rfl
              apply seq_plain; exact do_pick_t rfl rfl; exact rfl
              apply seq_nil
              exact jp_of (by repeat (first | exact sub_nil | apply sub_cons rfl))
            · have u1 : ((i : Int) == best) = false := u1
              rw [u1]
              apply seq_passed (hd := rfl) (hl := rfl) (hb := rfl); exact rfl
              apply seq_passed (hd := rfl) (hl := rfl) (hb := rfl); exact rfl
              apply seq_plain; exact do_pick_f rfl rfl; exact rfl
              apply seq_nil
              exact jp_of (by repeat (first | exact sub_nil | apply sub_cons rfl))
          skip
          refine ct_JX (α := AHeap × Nat) (ds := []) (fun _ => [(1, .pointer (some ⟨nb H 0, 0, none⟩)), (3, .pointer (some ⟨nb H 1, 0, none⟩)), (4, .bool (someTo pts opn i)), (5, I best), (7, I i), (9, I 23), (62, I pts.length), (63, I i)]) (fun a => ext a.1 a.2 []) (fun a => Closed a.1 ∧ Ext h a.1) ?_ (fun a ha => ?_)
          · refine ct_cond rfl (fun g1 => ?_) (fun g1 => ?_)
            · have g1 : i = best := by simp at g1; omega
              subst g1
              apply ct_seq
              apply ct_region
              apply seq_plain; exact do_assign rfl; exact rfl
              apply seq_nil
              apply ct_seq
              apply ct_seq
              apply ct_region
              apply seq_plain; exact do_fieldAddr rfl rfl; exact rfl
              apply seq_plain; exact do_load rfl (by exact ext_get_old (by assumption) (by assumption)) rfl (by exact rfl); exact rfl
              apply seq_plain; exact do_lenS rfl rfl rfl; exact rfl
              apply seq_plain; exact do_move rfl; exact rfl
              apply seq_nil
              apply ct_block
              apply ct_loop
              refine lt_upB hc' (fun k => [(1, .pointer (some ⟨nb H 0, 0, none⟩)), (3, .pointer (some ⟨nb H 1, 0, none⟩)), (4, .bool (someTo pts opn i)), (5, I i), (7, I i), (9, I 23), (12, .bool ((opn.take k).all (hasT i))), (62, I pts.length), (63, I i), (132, .slice r opn.length d), (133, I opn.length), (134, I k)]) (fun _ => True) opn.length (fun k h2 lo2 hc2 hE2 hk _ ih2 => ?_) 0 (by omega) trivial (by repeat (first | exact sub_nil | apply sub_cons rfl))
              have hh2 := (ext_Ext hc').trans hE2
              apply ct_seq
              apply ct_region
              apply seq_plain; exact do_binInt rfl rfl rfl trivial; exact rfl
              apply seq_nil
              apply ct_seq
              refine ct_cond rfl (fun g2 => ?_) (fun g2 => ?_)
              · simp only [decide_eq_true_eq, Int.ofNat_lt] at g2
                obtain ⟨bo, oo, cso, zo, so, roo, rfl, hgo, hwo⟩ := (ht1.ext hh2).out (by intro e; rw [e] at g2; simp at g2)
                have eall : (opn.take (k + 1)).all (hasT i) = ((opn.take k).all (hasT i) && hasT i opn[k]) := by
                  rw [take_snoc g2, List.all_append]; simp
                apply ct_skip
                apply ct_seq
                apply ct_block
                apply ct_seq
                apply ct_region
                apply seq_plain; exact do_indexAddrS rfl rfl rfl (by exact idx_nat (by omega)); exact rfl
                apply seq_plain; exact do_load rfl (by exact ext_get_old (by assumption) (by assumption)) rfl (by exact pt_sl (by assumption) (by omega)); exact rfl
                apply seq_newP; exact do_alloc rfl rfl; exact rfl
                apply seq_putC (hc := by assumption); rotate_left; exact do_store rfl rfl (by exact ext_get_new rfl) rfl rfl (nb_own _); rotate_left; exact Nat.le_of_ble_eq_true rfl
                apply ct_region
                apply seq_plain; exact do_move rfl; exact rfl
                apply seq_plain; exact do_move rfl; exact rfl
                refine seq_J [(1, .pointer (some ⟨nb H 0, 0, none⟩)), (3, .pointer (some ⟨nb H 1, 0, none⟩)), (4, .bool (someTo pts opn i)), (5, I i), (7, I i), (9, I 23), (12, .bool ((opn.take (k + 1)).all (hasT i))), (62, I pts.length), (63, I i), (132, .slice (some ⟨bo, oo, none⟩) opn.length d), (133, I opn.length), (134, I k)] (ds := []) (h := ext h2 lo2 [some (.cells [I opn[k].1, I opn[k].2] 0 false false)]) ?_ ?_
                · rw [eall, hasT_or]
                  refine seq_gsplit rfl rfl (fun u2 => ?_) (fun u2 => ?_)
                  · rw [u2]
                    apply seq_guard (hd := rfl) (hl := rfl); exact do_indexAddrA rfl rfl rfl (by exact rfl); exact rfl
                    apply seq_guard (hd := rfl) (hl := rfl); exact do_load rfl (by exact ext_get_new rfl) rfl (by exact rfl); exact rfl
                    apply seq_guard (hd := rfl) (hl := rfl); exact do_move rfl; exact rfl
                    apply seq_guard (hd := rfl) (hl := rfl); exact do_binInt rfl rfl rfl trivial; exact rfl
                    apply seq_guard (hd := rfl) (hl := rfl); exact do_move rfl; exact rfl
                    refine seq_gsplit rfl rfl (fun u3 => ?_) (fun u3 => ?_)
                    · have u3 : (opn[k].1 == (i : Int)) = true := u3
                      rw [u3]
                      apply seq_passed (hd := rfl) (hl := rfl) (hb := rfl); exact rfl
                      apply seq_passed (hd := rfl) (hl := rfl) (hb := rfl); exact rfl
                      apply seq_passed (hd := rfl) (hl := rfl) (hb := rfl); exact rfl
                      apply seq_passed (hd := rfl) (hl := rfl) (hb := rfl); exact rfl
                      apply seq_guard (hd := rfl) (hl := rfl); exact do_pick_t rfl rfl; exact rfl
                      apply seq_plain; exact do_pick_t rfl rfl; exact rfl
                      apply seq_plain; exact do_assign rfl; exact rfl
                      apply seq_nil
                      exact jp_of (by repeat (first | exact sub_nil | apply sub_cons rfl))
                    · have u3 : (opn[k].1 == (i : Int)) = false := u3
                      rw [u3]
                      apply seq_guard (hd := rfl) (hl := rfl); exact do_indexAddrA rfl rfl rfl (by exact rfl); exact rfl
                      apply seq_guard (hd := rfl) (hl := rfl); exact do_load rfl (by exact ext_get_new rfl) rfl (by exact rfl); exact rfl
                      apply seq_guard (hd := rfl) (hl := rfl); exact do_move rfl; exact rfl
                      apply seq_guard (hd := rfl) (hl := rfl); exact do_binInt rfl rfl rfl trivial; exact rfl
                      apply seq_guard (hd := rfl) (hl := rfl); exact do_pick_f rfl rfl; exact rfl
                      apply seq_plain; exact do_pick_t rfl rfl; exact rfl
                      apply seq_plain; exact do_assign rfl; exact rfl
                      apply seq_nil
                      exact jp_of (by repeat (first | exact sub_nil | apply sub_cons rfl))
                  · rw [u2]
                    apply seq_passed (hd := rfl) (hl := rfl) (hb := rfl); exact rfl
                    apply seq_passed (hd := rfl) (hl := rfl) (hb := rfl); exact rfl
                    apply seq_passed (hd := rfl) (hl := rfl) (hb := rfl); exact rfl
                    apply seq_passed (hd := rfl) (hl := rfl) (hb := rfl); exact rfl
                    apply seq_passed (hd := rfl) (hl := rfl) (hb := rfl); exact rfl
                    apply seq_passedU (hd := rfl) (hl := rfl); exact rfl
                    apply seq_passedU (hd := rfl) (hl := rfl); exact rfl
                    apply seq_passedU (hd := rfl) (hl := rfl); exact rfl
                    apply seq_passedU (hd := rfl) (hl := rfl); exact rfl
                    apply seq_passed (hd := rfl) (hl := rfl) (hb := rfl); exact rfl
                    apply seq_plain; exact do_pick_f rfl rfl; exact rfl
                    apply seq_plain; exact do_assign rfl; exact rfl
                    apply seq_nil
                    exact jp_of (by repeat (first | exact sub_nil | apply sub_cons rfl))
                apply ct_region
                apply seq_plain; exact do_succ rfl (by omega); exact rfl
                apply seq_plain; exact do_move rfl; exact rfl
                apply seq_nil
                exact lt_sub (by repeat (first | exact sub_nil | apply sub_cons rfl)) (ih2 (k + 1) _ _ _ hc2 (.refl _) (by omega) (by omega) trivial)
              · simp only [decide_eq_false_iff_not, Int.ofNat_lt] at g2
                apply ct_exit
                apply exit_eq; exact rfl
                apply ct_seq
                apply ct_region
                apply seq_plain; exact do_move rfl; exact rfl
                apply seq_nil
                refine ct_cond_f rfl ?_ ?_
                · cases hall : (opn.take k).all (hasT i) with
                  | false => rfl
                  | true =>
                    exfalso
                    rw [take_all (by omega), List.all_eq_true] at hall
                    exact hbe (own_first hg htop hall)
                apply ct_skip
                exact jx_of (h2, lo2) ⟨hc2, hh2⟩ (by repeat (first | exact sub_nil | apply sub_cons rfl)) rfl
            · apply ct_skip
              exact jx_hq (ext h lo ([] ++ lstL 1 i1 (bestL pts opn i)), min lo h.fresh) ⟨ext_closed hc', ext_Ext hc'⟩ (by repeat (first | exact sub_nil | apply sub_cons rfl)) ext_base
          · obtain ⟨h2, lo2⟩ := a
            obtain ⟨hc2, hE2⟩ := ha
            simp only at hc2 hE2 ⊢
            have hb02 := hE2 _ _ hb0
            apply ct_seq
            apply ct_region
            apply seq_plain; exact do_fieldAddr rfl rfl; exact rfl
            apply seq_plain; exact do_load rfl (by exact ext_get_old (by assumption) (by assumption)) rfl (by exact rfl); exact rfl
            apply seq_plain; exact do_lenS rfl rfl rfl; exact rfl
            apply seq_plain; exact do_move rfl; exact rfl
            apply seq_nil
            apply ct_block
            apply ct_loop
            refine lt_upB hc2 (fun k => [(1, .pointer (some ⟨nb H 0, 0, none⟩)), (3, .pointer (some ⟨nb H 1, 0, none⟩)), (4, .bool (someTo pts opn i)), (5, I best), (7, I i), (9, I 23), (62, I pts.length), (63, I i), (154, .slice r opn.length d), (155, I opn.length), (156, I k)]) (fun _ => True) opn.length (fun k h3 lo3 hc3 hE3 hk _ ih2 => ?_) 0 (by omega) trivial (by repeat (first | exact sub_nil | apply sub_cons rfl))
            have hh3 := (hE2.trans (ext_Ext hc2)).trans hE3
            apply ct_seq
            apply ct_region
            apply seq_plain; exact do_binInt rfl rfl rfl trivial; exact rfl
            apply seq_nil
            apply ct_seq
            refine ct_cond rfl (fun g2 => ?_) (fun g2 => ?_)
            · simp only [decide_eq_true_eq, Int.ofNat_lt] at g2
              obtain ⟨bo, oo, cso, zo, so, roo, rfl, hgo, hwo⟩ := (ht1.ext hh3).out (by intro e; rw [e] at g2; simp at g2)
              apply ct_skip
              apply ct_seq
              apply ct_block
              apply ct_seq
              apply ct_region
              apply seq_plain; exact do_move rfl; exact rfl
              apply seq_plain; exact do_indexAddrS rfl rfl rfl (by exact idx_nat (by omega)); exact rfl
              apply seq_plain; exact do_load rfl (by exact ext_get_old (by assumption) (by assumption)) rfl (by exact pt_sl (by assumption) (by omega)); exact rfl
              apply seq_newP; exact do_alloc rfl rfl; exact rfl
              apply seq_plain; exact do_assign rfl; exact rfl
              apply seq_putC (hc := by assumption); rotate_left; exact do_store rfl rfl (by exact ext_get_new rfl) rfl rfl (nb_own _); rotate_left; exact Nat.le_of_ble_eq_true rfl
              apply ct_seq
              apply ct_seq
              apply ct_region
              apply seq_plain; exact do_move rfl; exact rfl
              apply seq_plain; exact do_binInt rfl rfl rfl trivial; exact rfl
              apply seq_plain; exact do_move rfl; exact rfl
              apply seq_passed (hd := rfl) (hl := rfl) (hb := rfl); exact rfl
              apply seq_passed (hd := rfl) (hl := rfl) (hb := rfl); exact rfl
              apply seq_passed (hd := rfl) (hl := rfl) (hb := rfl); exact rfl
              apply seq_passed (hd := rfl) (hl := rfl) (hb := rfl); exact rfl
              apply seq_passed (hd := rfl) (hl := rfl) (hb := rfl); exact rfl
              apply seq_passedU (hd := rfl) (hl := rfl); exact rfl
              apply seq_passedU (hd := rfl) (hl := rfl); exact rfl
              apply seq_passedU (hd := rfl) (hl := rfl); exact rfl
              apply seq_passedU (hd := rfl) (hl := rfl); exact rfl
              apply seq_passed (hd := rfl) (hl := rfl) (hb := rfl); exact rfl
              apply seq_plain; exact do_pick_t rfl rfl; exact rfl
              apply seq_nil
              refine ct_cond_t rfl rfl ?_
              apply ct_exit
              apply exit_eq; exact rfl
              apply ct_region
              apply seq_plain; exact do_succ rfl (by omega); exact rfl
              apply seq_plain; exact do_move rfl; exact rfl
              apply seq_nil
              exact lt_sub (by repeat (first | exact sub_nil | apply sub_cons rfl)) (ih2 (k + 1) _ _ _ hc3 (.refl _) (by omega) (by omega) trivial)
            · apply ct_exit
              apply exit_eq; exact rfl
              apply ct_region
              apply seq_plain; exact do_succ rfl (by omega); exact rfl
              apply seq_plain; exact do_move rfl; exact rfl
              apply seq_nil
              have ih := ih (i + 1) h3 lo3 [] hc3 hh3 (by omega) (by omega) trivial
              rw [e4] at ih
              exact lt_sub (by repeat (first | exact sub_nil | apply sub_cons rfl)) ih
        · rw [lstH_ext, ext_fresh]
          apply seq_plain; exact do_move rfl; exact rfl
          apply seq_plain; exact do_extract rfl rfl; exact rfl
          apply seq_plain; exact do_extract rfl rfl; exact rfl
          apply seq_plain; exact do_assign rfl; exact rfl
          apply seq_plain; exact do_assign rfl; exact rfl
          apply seq_nil
          apply ct_seq
          apply ct_region
          apply seq_plain; exact do_load rfl (by exact ext_get_old (by assumption) (by assumption)) rfl (by exact rfl); exact rfl
          apply seq_plain; exact do_move rfl; exact rfl
          apply seq_call (ht := rfl); exact c1 _; exact rfl
          apply seq_plain; exact do_move rfl; exact rfl
          apply seq_plain; exact do_extract rfl rfl; exact rfl
          apply seq_plain; exact do_extract rfl rfl; exact rfl
          apply seq_plain; exact do_assign rfl; exact rfl
          apply seq_plain; exact do_assign rfl; exact rfl
          apply seq_nil
          apply ct_seq
          apply ct_seq
          apply ct_region
          apply seq_plain; exact do_move rfl; exact rfl
          apply seq_plain; exact do_binInt rfl rfl rfl trivial; exact rfl
          apply seq_nil
          rw [hbe]
          have e4 : someTo pts opn (i + 1) = true := by rw [someTo_succ, hbe]; simp
          have etl : titleE pts opn i p = 0 := by
            unfold titleE
            rw [if_neg (by simp [hok])]
            exact ht0
          have hw := wins_of_title ht0
          refine ct_cond_t rfl rfl ?_
          apply ct_seq
          apply ct_seq
          apply ct_region
          apply seq_plain; exact do_move rfl; exact rfl
          apply seq_plain; exact do_binInt rfl rfl rfl trivial; exact rfl
          apply seq_plain; exact do_move rfl; exact rfl
          apply seq_guard (hd := rfl) (hl := rfl); exact do_move rfl; exact rfl
          apply seq_guard (hd := rfl) (hl := rfl); exact do_lenS rfl rfl rfl; exact rfl
          apply seq_guard (hd := rfl) (hl := rfl); exact do_fieldAddr rfl rfl; exact rfl
          apply seq_guard (hd := rfl) (hl := rfl); exact do_load rfl (by exact ext_get_old (by assumption) (by assumption)) rfl (by exact rfl); exact rfl
          apply seq_guard (hd := rfl) (hl := rfl); exact do_lenS rfl rfl rfl; exact rfl
          apply seq_guard (hd := rfl) (hl := rfl); exact do_binInt rfl rfl rfl trivial; exact rfl
          apply seq_plain; exact do_pick_f rfl rfl; exact rfl
          apply seq_plain; exact do_move rfl; exact rfl
          rw [show (((p.length : Nat) : Int) != ((opn.length : Nat) : Int)) = false by simp [hpl]]
          apply seq_guard (hd := rfl) (hl := rfl); exact do_load rfl (by exact ext_get_old (by assumption) (by assumption)) rfl (by exact rfl); exact rfl
          apply seq_guard (hd := rfl) (hl := rfl); exact do_move rfl; exact rfl
          apply seq_guard (hd := rfl) (hl := rfl); exact do_move rfl; exact rfl
          apply seq_gcall (hg := rfl) (hl := rfl) (ht := rfl); exact checkTitle_c (points := p) (hs1.ext (ext_Ext hc')) (ht1.ext (ext_Ext hc')) ((lst_slAt (m := 1) (f := i1) fun _ => rfl).ext (lst_Ext hc')) (by omega) (by omega) (by omega); exact rfl
          rw [etl]
          apply seq_guard (hd := rfl) (hl := rfl); exact do_binInt rfl rfl rfl trivial; exact rfl
          apply seq_plain; exact do_pick_f rfl rfl; exact rfl
          apply seq_plain; exact do_move rfl; exact rfl
          apply seq_guard (hd := rfl) (hl := rfl); exact do_load rfl (by exact ext_get_old (by assumption) (by assumption)) rfl (by exact rfl); exact rfl
          apply seq_guard (hd := rfl) (hl := rfl); exact do_move rfl; exact rfl
          apply seq_guard (hd := rfl) (hl := rfl); exact do_move rfl; exact rfl
          apply seq_gcall (hg := rfl) (hl := rfl) (ht := rfl); exact refCheckTitle_c (points := p) (hs1.ext (ext_Ext hc')) (ht1.ext (ext_Ext hc')) ((lst_slAt (m := 1) (f := i1) fun _ => rfl).ext (lst_Ext hc')) hg (by omega) (by omega); exact rfl
          rw [ht0]
          apply seq_guard (hd := rfl) (hl := rfl); exact do_binInt rfl rfl rfl trivial; exact rfl
          apply seq_plain; exact do_pick_f rfl rfl; exact rfl
          apply seq_nil
          refine ct_cond_f rfl rfl ?_
          apply ct_skip
          apply ct_region
          apply seq_plain; exact do_assign rfl; exact rfl
          apply seq_nil
          apply ct_seq
          apply ct_seq
          apply ct_region
          apply seq_plain; exact do_move rfl; exact rfl
          apply seq_plain; exact do_move rfl; exact rfl
          apply seq_plain; exact do_binInt rfl rfl rfl trivial; exact rfl
          apply seq_plain; exact do_move rfl; exact rfl
          refine seq_J [(1, .pointer (some ⟨nb H 0, 0, none⟩)), (3, .pointer (some ⟨nb H 1, 0, none⟩)), (4, .bool true), (5, I best), (7, I i), (9, I 0), (62, I pts.length), (63, I i), (130, .bool false)] (ds := []) (h := ext h lo ([] ++ lstL 1 i1 p ++ lstL 1 i1 ([] : List Int))) ?_ ?_
          · refine seq_gsplit rfl rfl (fun u1 => ?_) (fun u1 => ?_)
            · apply seq_guard (hd := rfl) (hl := rfl); exact do_move rfl; exact rfl
              apply seq_guard (hd := rfl) (hl := rfl); exact do_binInt rfl rfl rfl trivial; exact rfl
              apply seq_plain; exact do_pick_t rfl rfl; exact rfl
              apply seq_nil
              exact jp_of (by repeat (first | exact sub_nil | apply sub_cons rfl))
            · apply seq_passed (hd := rfl) (hl := rfl) (hb := rfl); exact rfl
              apply seq_passed (hd := rfl) (hl := rfl) (hb := rfl); exact rfl
              apply seq_plain; exact do_pick_f rfl rfl; exact rfl
              apply seq_nil
              exact jp_of (by repeat (first | exact sub_nil | apply sub_cons rfl))
          skip
          refine ct_cond_f rfl rfl ?_
          apply ct_skip
          apply ct_seq
          apply ct_region
          apply seq_plain; exact do_fieldAddr rfl rfl; exact rfl
          apply seq_plain; exact do_load rfl (by exact ext_get_old (by assumption) (by assumption)) rfl (by exact rfl); exact rfl
          apply seq_plain; exact do_lenS rfl rfl rfl; exact rfl
          apply seq_plain; exact do_move rfl; exact rfl
          apply seq_nil
          apply ct_block
          apply ct_loop
          refine lt_upB hc' (fun k => [(1, .pointer (some ⟨nb H 0, 0, none⟩)), (3, .pointer (some ⟨nb H 1, 0, none⟩)), (4, .bool true), (5, I best), (7, I i), (9, I 0), (62, I pts.length), (63, I i), (154, .slice r opn.length d), (155, I opn.length), (156, I k)]) (fun _ => True) opn.length (fun k h3 lo3 hc3 hE3 hk _ ih2 => ?_) 0 (by omega) trivial (by repeat (first | exact sub_nil | apply sub_cons rfl))
          have hh3 := (ext_Ext hc').trans hE3
          have hb03 := hh3 _ _ hb0
          apply ct_seq
          apply ct_region
          apply seq_plain; exact do_binInt rfl rfl rfl trivial; exact rfl
          apply seq_nil
          apply ct_seq
          refine ct_cond rfl (fun g2 => ?_) (fun g2 => ?_)
          · simp only [decide_eq_true_eq, Int.ofNat_lt] at g2
            have hx3 := (hx.ext hE).ext hh3
            obtain ⟨bo, oo, cso, zo, so, roo, rfl, hgo, hwo⟩ := hx3.at_.out (by intro e; rw [e] at g2; simp at g2)
            apply ct_skip
            apply ct_seq
            apply ct_block
            apply ct_seq
            apply ct_region
            apply seq_plain; exact do_move rfl; exact rfl
            apply seq_plain; exact do_indexAddrS rfl rfl rfl (by exact idx_nat (by omega)); exact rfl
            apply seq_plain; exact do_load rfl (by exact ext_get_old (by assumption) (by assumption)) rfl (by exact pt_sl (by assumption) (by omega)); exact rfl
            apply seq_newP; exact do_alloc rfl rfl; exact rfl
            apply seq_plain; exact do_assign rfl; exact rfl
            apply seq_putC (hc := by assumption); rotate_left; exact do_store rfl rfl (by exact ext_get_new rfl) rfl rfl (nb_own _); rotate_left; exact Nat.le_of_ble_eq_true rfl
            apply ct_seq
            apply ct_seq
            apply ct_region
            apply seq_plain; exact do_move rfl; exact rfl
            apply seq_plain; exact do_binInt rfl rfl rfl trivial; exact rfl
            apply seq_plain; exact do_move rfl; exact rfl
            apply seq_guard (hd := rfl) (hl := rfl); exact do_indexAddrA rfl rfl rfl (by exact rfl); exact rfl
            apply seq_guard (hd := rfl) (hl := rfl); exact do_load rfl (by exact ext_get_new rfl) rfl (by exact rfl); exact rfl
            apply seq_guard (hd := rfl) (hl := rfl); exact do_move rfl; exact rfl
            apply seq_guard (hd := rfl) (hl := rfl); exact do_binInt rfl rfl rfl trivial; exact rfl
            apply seq_guard (hd := rfl) (hl := rfl); exact do_move rfl; exact rfl
            refine seq_J [(1, .pointer (some ⟨nb H 0, 0, none⟩)), (3, .pointer (some ⟨nb H 1, 0, none⟩)), (4, .bool true), (5, I best), (7, I i), (9, I 0), (62, I pts.length), (63, I i), (154, .slice (some ⟨bo, oo, none⟩) opn.length d), (155, I opn.length), (156, I k), (15, I k), (174, .bool (!(hasT i opn[k])))] (ds := []) (h := ext h3 lo3 [some (.cells [I opn[k].1, I opn[k].2] 0 false false)]) ?_ ?_
            · rw [hasT_or]
              refine seq_gsplit rfl rfl (fun u3 => ?_) (fun u3 => ?_)
              · have u3 : (opn[k].1 != (i : Int)) = true := u3
                have e : (opn[k].1 == (i : Int)) = false := by simpa using u3
                rw [e]
                apply seq_guard (hd := rfl) (hl := rfl); exact do_indexAddrA rfl rfl rfl (by exact rfl); exact rfl
                apply seq_guard (hd := rfl) (hl := rfl); exact do_load rfl (by exact ext_get_new rfl) rfl (by exact rfl); exact rfl
                apply seq_guard (hd := rfl) (hl := rfl); exact do_move rfl; exact rfl
                apply seq_guard (hd := rfl) (hl := rfl); exact do_binInt rfl rfl rfl trivial; exact rfl
                apply seq_guard (hd := rfl) (hl := rfl); exact do_pick_t rfl rfl; exact rfl
                apply seq_plain; exact do_pick_f rfl rfl; exact rfl
                apply seq_nil
                exact jp_of (by repeat (first | exact sub_nil | apply sub_cons rfl))
              · have u3 : (opn[k].1 != (i : Int)) = false := u3
                have e : (opn[k].1 == (i : Int)) = true := by simpa using u3
                rw [e]
                apply seq_passed (hd := rfl) (hl := rfl) (hb := rfl); exact rfl
                apply seq_passed (hd := rfl) (hl := rfl) (hb := rfl); exact rfl
                apply seq_passed (hd := rfl) (hl := rfl) (hb := rfl); exact rfl
                apply seq_passed (hd := rfl) (hl := rfl) (hb := rfl); exact rfl
                apply seq_guard (hd := rfl) (hl := rfl); exact do_pick_f rfl rfl; exact rfl
                apply seq_plain; exact do_pick_f rfl rfl; exact rfl
                apply seq_nil
                exact jp_of (by repeat (first | exact sub_nil | apply sub_cons rfl))
            skip
            refine ct_cond rfl (fun g3 => ?_) (fun g3 => ?_)
            · apply ct_exit
              apply exit_eq; exact rfl
              apply ct_region
              apply seq_plain; exact do_succ rfl (by omega); exact rfl
              apply seq_plain; exact do_move rfl; exact rfl
              apply seq_nil
              exact lt_sub (by repeat (first | exact sub_nil | apply sub_cons rfl)) (ih2 (k + 1) _ _ _ hc3 (.refl _) (by omega) (by omega) trivial)
            · have g3 : hasT i opn[k] = true := by simpa using g3
              have hi3 : i < pts.length := by omega
              have hnx := next_first hg hi3 g2 g3 hw
              have hcap := hx3.cap
              have hne : opn ≠ [] := by intro e; rw [e] at g2; simp at g2
              obtain ⟨bp, op, csp, zp, sp, rop, rfl, hgp, hwp⟩ := ((hs.ext hE).ext hh3).out (by intro e; rw [e] at hlo; simp at hlo)
              have srcT := part_to p2_two hwo (i := k) (by omega)
              have srcD := part_from (c := d) (i := k + 1) p2_two hwo hcap
              have hll := lessO_len g2
              have one : ∀ l : List (Int × Int), (l.flatMap p2).all oneCell = true := fun l => by
                rw [List.all_eq_true]
                intro x hxm
                obtain ⟨y, _, hy⟩ := List.mem_flatMap.1 hxm
                simp only [p2, List.mem_cons, List.not_mem_nil, or_false] at hy
                rcases hy with rfl | rfl <;> rfl
              apply ct_skip
              apply ct_seq
              apply ct_draw (by assumption); decide +kernel
              apply sd_newS (hfree := rfl); exact do_buildSlice rfl rfl rfl rfl rfl rfl rfl; exact rfl
              apply sd_plain (hfree := rfl); intro _; exact do_fieldAddr rfl rfl; exact rfl
              apply sd_look (hfree := rfl); exact do_load rfl (by exact ext_get_old (by assumption) (by assumption)) rfl (by exact rfl); exact rfl
              refine sd_newSA rfl rfl (by decide +kernel) (do_appendE rfl rfl rfl rfl rfl rfl (ext_get_old hc3 hgp) (slAt_all hwp) (ext_get_new rfl) (Nat.le_trans (Nat.mul_le_mul_right _ (by omega : 2 * (0 + pts.length) + 1000 ≤ 3000)) (Nat.le_of_ble_eq_true rfl)) (Nat.ne_of_beq_eq_false rfl) (Nat.ne_of_beq_eq_false rfl) (by omega)) rfl ?_
              apply sd_newS (hfree := rfl); exact do_buildSlice rfl rfl rfl rfl rfl rfl rfl; exact rfl
              apply sd_plain (hfree := rfl); intro _; exact do_fieldAddr rfl rfl; exact rfl
              apply sd_look (hfree := rfl); exact do_load rfl (by exact ext_get_old (by assumption) (by assumption)) rfl (by exact rfl); exact rfl
              apply sd_plain (hfree := rfl); intro _; exact do_move rfl; exact rfl
              apply sd_look (hfree := rfl); exact do_sliceTo rfl rfl rfl (fun e => by cases e) (fun _ e => by cases e; rfl) (i := k) (by omega); exact rfl
              refine sd_JX (α := List (Option ABlk) × Nat × Nat × Option Addr) (fun a => [(1, .pointer (some ⟨nb H 0, 0, none⟩)), (3, .pointer (some ⟨nb H 1, 0, none⟩)), (4, .bool true), (5, I best), (7, I i), (9, I 0), (62, I pts.length), (63, I i), (154, .slice (some ⟨bo, oo, none⟩) opn.length d), (155, I opn.length), (156, I k), (17, .pointer (some ⟨nb h3 a.2.1, 0, none⟩))]) (fun a => ext h3 lo3 a.1)
                (fun a => a.1[a.2.1]? = some (some (.cells [.slice (some ⟨nb h3 a.2.2.1, 0, none⟩) pts.length pts.length, .slice a.2.2.2 (lessO opn k).length (lessO opn k).length] 0 false false)) ∧ a.1[a.2.2.1]? = some (some (.cells (pts.map I) 1 true false)) ∧ a.2.1 ≠ a.2.2.1 ∧ (lessO opn k = [] ∨ ∃ ko, ko ≠ a.2.2.1 ∧ a.2.2.2 = some ⟨nb h3 ko, 0, none⟩ ∧ a.1[ko]? = some (some (.cells ((lessO opn k).flatMap p2) 2 true false)))) ?_ (fun a ha => ?_)
              · have el : opn.length - (k + 1) + k = (lessO opn k).length := by omega
                rcases Nat.eq_zero_or_pos k with hk0 | hk0
                · subst hk0
                  refine sd_lookM rfl rfl (by decide +kernel) (do_appendZ rfl rfl rfl rfl rfl rfl (ext_get_old hc3 hgo) (Nat.le_refl _) (Nat.le_of_ble_eq_true rfl) (Nat.ne_of_beq_eq_false rfl) (Nat.ne_of_beq_eq_false rfl)) rfl ?_
                  apply sd_plain (hfree := rfl); intro _; exact do_fieldAddr rfl rfl; exact rfl
                  apply sd_look (hfree := rfl); exact do_load rfl (by exact ext_get_old (by assumption) (by assumption)) rfl (by exact rfl); exact rfl
                  apply sd_plain (hfree := rfl); intro _; exact do_move rfl; exact rfl
                  apply sd_plain (hfree := rfl); intro _; exact do_succ rfl (by omega); exact rfl
                  apply sd_look (hfree := rfl); exact do_sliceFrom (i := 0 + 1) rfl rfl rfl (hx3.ext (ext_Ext hc3)) hne (by omega); exact rfl
                  have e0 : (lessO opn 0).flatMap p2 = (opn.drop (0 + 1)).flatMap p2 := by simp [lessO]
                  by_cases hm : opn.length - (0 + 1) = 0
                  · rw [hm] at el ⊢
                    refine sd_lookM rfl rfl (by decide +kernel) (do_appendZ rfl rfl rfl rfl rfl rfl (ext_get_old hc3 hgo) (Nat.le_refl _) (Nat.le_of_ble_eq_true rfl) (Nat.ne_of_beq_eq_false rfl) (Nat.ne_of_beq_eq_false rfl)) rfl ?_
                    apply sd_plain (hfree := rfl); intro _; exact do_build rfl rfl rfl rfl; exact rfl
                    apply sd_newP (hfree := rfl); exact do_alloc rfl rfl; exact rfl
                    apply sd_put (hfree := rfl) (hser := by decide +kernel) (hc := by assumption); rotate_left; exact do_store rfl rfl (by exact ext_get_new rfl) rfl rfl (nb_own _); rotate_left; exact Nat.le_of_ble_eq_true rfl
                    apply sd_nil
                    refine jx_of (_, 4, 2, some ⟨nb h3 3, 0, none⟩) ⟨?_, ?_, ?_, .inl (List.length_eq_zero_iff.1 el.symm)⟩ (by repeat (first | exact sub_nil | apply sub_cons rfl)) rfl
                    · rw [← el]; rfl
                    · rfl
                    · exact Nat.ne_of_beq_eq_false rfl
                  · have el : opn.length - (0 + 1) = (lessO opn 0).length := by omega
                    refine sd_newSA rfl rfl (by decide +kernel) (do_appendE rfl rfl rfl rfl rfl rfl (ext_get_old hc3 hgo) srcD (ext_get_new rfl) (Nat.le_trans (Nat.mul_le_mul_right _ (by omega : 2 * (0 + (opn.length - (0 + 1))) + 1000 ≤ 3000)) (Nat.le_of_ble_eq_true rfl)) (Nat.ne_of_beq_eq_false rfl) (Nat.ne_of_beq_eq_false rfl) (by omega)) rfl ?_
                    apply sd_plain (hfree := rfl); intro _; exact do_build rfl rfl rfl rfl; exact rfl
                    apply sd_newP (hfree := rfl); exact do_alloc rfl rfl; exact rfl
                    apply sd_put (hfree := rfl) (hser := by decide +kernel) (hc := by assumption); rotate_left; exact do_store rfl rfl (by exact ext_get_new rfl) rfl rfl (nb_own _); rotate_left; exact Nat.le_of_ble_eq_true rfl
                    apply sd_nil
                    refine jx_of (_, 5, 2, some ⟨nb h3 4, 0, none⟩) ⟨?_, ?_, ?_, .inr ⟨4, ?_, rfl, ?_⟩⟩ (by repeat (first | exact sub_nil | apply sub_cons rfl)) rfl
                    · rw [← el]; rfl
                    · rfl
                    · exact Nat.ne_of_beq_eq_false rfl
                    · exact Nat.ne_of_beq_eq_false rfl
                    · rw [e0]; rfl
                · refine sd_newSA rfl rfl (by decide +kernel) (do_appendE rfl rfl rfl rfl rfl rfl (ext_get_old hc3 hgo) srcT (ext_get_new rfl) (Nat.le_trans (Nat.mul_le_mul_right _ (by omega : 2 * (0 + k) + 1000 ≤ 3000)) (Nat.le_of_ble_eq_true rfl)) (Nat.ne_of_beq_eq_false rfl) (Nat.ne_of_beq_eq_false rfl) hk0) rfl ?_
                  apply sd_plain (hfree := rfl); intro _; exact do_fieldAddr rfl rfl; exact rfl
                  apply sd_look (hfree := rfl); exact do_load rfl (by exact ext_get_old (by assumption) (by assumption)) rfl (by exact rfl); exact rfl
                  apply sd_plain (hfree := rfl); intro _; exact do_move rfl; exact rfl
                  apply sd_plain (hfree := rfl); intro _; exact do_succ rfl (by omega); exact rfl
                  apply sd_look (hfree := rfl); exact do_sliceFrom (i := k + 1) rfl rfl rfl (hx3.ext (ext_Ext hc3)) hne (by omega); exact rfl
                  have e0 : (lessO opn k).flatMap p2 = (opn.take k).flatMap p2 ++ (opn.drop (k + 1)).flatMap p2 := by simp [lessO]
                  by_cases hm : opn.length - (k + 1) = 0
                  · rw [hm] at el ⊢
                    have el : k = (lessO opn k).length := by omega
                    have e1 : opn.drop (k + 1) = [] := by rw [List.drop_eq_nil_iff]; omega
                    refine sd_lookM rfl rfl (by decide +kernel) (do_appendZ rfl rfl rfl rfl rfl rfl (ext_get_old hc3 hgo) (Nat.le_refl _) (Nat.le_trans (Nat.mul_le_mul_right _ (by omega : 2 * (k + 0) + 1000 ≤ 3000)) (Nat.le_of_ble_eq_true rfl)) (Nat.ne_of_beq_eq_false rfl) (Nat.ne_of_beq_eq_false rfl)) rfl ?_
                    apply sd_plain (hfree := rfl); intro _; exact do_build rfl rfl rfl rfl; exact rfl
                    apply sd_newP (hfree := rfl); exact do_alloc rfl rfl; exact rfl
                    apply sd_put (hfree := rfl) (hser := by decide +kernel) (hc := by assumption); rotate_left; exact do_store rfl rfl (by exact ext_get_new rfl) rfl rfl (nb_own _); rotate_left; exact Nat.le_of_ble_eq_true rfl
                    apply sd_nil
                    refine jx_of (_, 5, 2, some ⟨nb h3 4, 0, none⟩) ⟨?_, ?_, ?_, .inr ⟨4, ?_, rfl, ?_⟩⟩ (by repeat (first | exact sub_nil | apply sub_cons rfl)) rfl
                    · rw [← el]; rfl
                    · rfl
                    · exact Nat.ne_of_beq_eq_false rfl
                    · exact Nat.ne_of_beq_eq_false rfl
                    · rw [e0, e1, List.flatMap_nil, List.append_nil]; rfl
                  · have el : k + (opn.length - (k + 1)) = (lessO opn k).length := by omega
                    refine sd_repl (k := 3) (j := 9) hc3 rfl rfl (by decide +kernel) rfl rfl (by decide +kernel) (do_append1 rfl rfl rfl rfl rfl rfl (ext_get_old hc3 hgo) srcD (ext_get_new rfl) (by rw [len_flat p2_two, List.length_take, Nat.min_eq_left (by omega)]; rfl) (nb_own _) (one _) (Nat.le_trans (Nat.mul_le_mul_right _ (by omega : 2 * (k + (opn.length - (k + 1))) + 1000 ≤ 3000)) (Nat.le_of_ble_eq_true rfl)) (Nat.ne_of_beq_eq_false rfl) (Nat.ne_of_beq_eq_false rfl) (by omega)) rfl ?_
                    refine se_plain rfl (fun h => do_build rfl rfl rfl rfl) rfl ?_
                    refine se_newP rfl (do_alloc rfl rfl) rfl ?_
                    refine se_put rfl (by decide +kernel) hc3 ?_ (do_store rfl rfl (by exact ext_get_new rfl) rfl rfl (nb_own _)) ?_
                    · exact Nat.le_of_ble_eq_true rfl
                    apply se_nil
                    refine jx_of (_, 6, 2, some ⟨nb h3 5, 0, none⟩) ⟨?_, ?_, ?_, .inr ⟨5, ?_, rfl, ?_⟩⟩ (by repeat (first | exact sub_nil | apply sub_cons rfl)) rfl
                    · rw [← el]; rfl
                    · rfl
                    · exact Nat.ne_of_beq_eq_false rfl
                    · exact Nat.ne_of_beq_eq_false rfl
                    · rw [e0]; rfl
              · obtain ⟨L4, kx, kp, po⟩ := a
                obtain ⟨j1, j2, j3, j4⟩ := ha
                simp only at j1 j2 j3 j4 ⊢
                have hkp := (List.getElem?_eq_some_iff.1 j2).1
                have hpi := hg.pt _ (List.getElem_mem hi3)
                apply ct_seq
                apply ct_region
                apply seq_plain; exact do_fieldAddr rfl rfl; exact rfl
                apply seq_plain; exact do_load rfl (by exact ext_get_new (by assumption)) rfl (by exact rfl); exact rfl
                apply seq_plain; exact do_move rfl; exact rfl
                apply seq_plain; exact do_indexAddrS rfl rfl rfl (by exact idx_nat (by omega)); exact rfl
                apply seq_plain; exact do_load rfl (by exact ext_get_new (by assumption)) rfl (by exact pt_map (by omega)); exact rfl
                apply seq_plain; exact do_add rfl rfl (by omega); exact rfl
                apply seq_plain; exact do_indexAddrS rfl rfl rfl (by exact idx_nat (by omega)); exact rfl
                apply seq_putC (hc := by assumption); rotate_left; exact do_store rfl rfl (by exact ext_get_new j2) rfl (stl_map hi3 rfl rfl) (nb_own _); rotate_left; exact (by assumption)
                have hl5 : (pts.set i (pts[i] + 2)).length = pts.length := by simp
                have j1' : (L4.set kp (some (.cells ((pts.set i (pts[i] + 2)).map I) 1 true false)))[kx]? = some (some (.cells [.slice (some ⟨nb h3 kp, 0, none⟩) pts.length pts.length, .slice po (lessO opn k).length (lessO opn k).length] 0 false false)) := by rw [List.getElem?_set_ne (Ne.symm j3)]; exact j1
                have j2' : (L4.set kp (some (.cells ((pts.set i (pts[i] + 2)).map I) 1 true false)))[kp]? = some (some (.cells ((pts.set i (pts[i] + 2)).map I) 1 true false)) := List.getElem?_set_self hkp
                have e5 : (pts.set i (pts[i] + 2))[i]'(by rw [hl5]; exact hi3) = pts[i] + 2 := List.getElem_set_self ..
                have hsO : SlAt (ext h3 lo3 (L4.set kp (some (.cells ((pts.set i (pts[i] + 2)).map I) 1 true false)))) 2 p2 po (lessO opn k) := by
                  rcases j4 with e | ⟨ko, n1, rfl, n2⟩
                  · rw [e]; exact .nil
                  · exact slAt_flat p2_two (ext_get_new (by rw [List.getElem?_set_ne (Ne.symm n1)]; exact n2))
                generalize L4.set kp (some (.cells ((pts.set i (pts[i] + 2)).map I) 1 true false)) = L5 at j1' j2' hsO ⊢
                apply ct_seq
                apply ct_seq
                apply ct_region
                apply seq_plain; exact do_fieldAddr rfl rfl; exact rfl
                apply seq_plain; exact do_load rfl (by exact ext_get_new (by assumption)) rfl (by exact rfl); exact rfl
                apply seq_plain; exact do_move rfl; exact rfl
                apply seq_plain; exact do_indexAddrS rfl rfl rfl (by exact idx_nat (by omega)); exact rfl
                apply seq_plain; exact do_load rfl (by exact ext_get_new (by assumption)) rfl (by exact pt_map (by omega)); exact rfl
                apply seq_plain; exact do_binInt rfl rfl rfl trivial; exact rfl
                apply seq_nil
                rw [e5]
                refine ct_cond rfl (fun g4 => ?_) (fun g4 => ?_)
                · apply ct_exit
                  apply exit_eq; exact rfl
                  apply ct_region
                  apply seq_plain; exact do_succ rfl (by omega); exact rfl
                  apply seq_plain; exact do_move rfl; exact rfl
                  apply seq_nil
                  exact lt_sub (by repeat (first | exact sub_nil | apply sub_cons rfl)) (ih2 (k + 1) _ _ _ hc3 (.refl _) (by omega) (by omega) trivial)
                · simp only [decide_eq_false_iff_not] at g4
                  have hg5 := good_next hg (i := i) (x := pts[i] + 2) ⟨by omega, by omega⟩ (k := k)
                  have hok5 : chkR (pts.set i (pts[i] + 2)) (lessO opn k) i = 0 := chk_zero hg5 (by omega) (by rw [hl5]; omega)
                  have ct := title_c (c := pts.length) (d := (lessO opn k).length) (team := i) (slAt_map (ext_get_new j2')) hsO hok5
                  rw [hl5] at ct
                  apply ct_skip
                  apply ct_seq
                  apply ct_region
                  apply seq_plain; exact do_load rfl (by exact ext_get_new (by assumption)) rfl (by exact rfl); exact rfl
                  apply seq_plain; exact do_move rfl; exact rfl
                  refine seq_callQ rfl ct rfl (fun v h4 hv => ?_)
                  rcases hv with ⟨hv, _, _⟩ | ⟨_, p5, _, _, rfl, rfl⟩
                  · exact absurd hnx hv
                  · rw [lstH_ext]
                    apply seq_plain; exact do_move rfl; exact rfl
                    apply seq_plain; exact do_extract rfl rfl; exact rfl
                    apply seq_plain; exact do_extract rfl rfl; exact rfl
                    apply seq_plain; exact do_assign rfl; exact rfl
                    apply seq_plain; exact do_assign rfl; exact rfl
                    apply seq_nil
                    apply ct_seq
                    apply ct_region
                    apply seq_plain; exact do_move rfl; exact rfl
                    apply seq_plain; exact do_binInt rfl rfl rfl trivial; exact rfl
                    apply seq_nil
                    refine ct_cond_f rfl rfl ?_
                    apply ct_skip
                    apply ct_region
                    apply seq_plain; exact do_succ rfl (by omega); exact rfl
                    apply seq_plain; exact do_move rfl; exact rfl
                    apply seq_nil
                    exact lt_sub (by repeat (first | exact sub_nil | apply sub_cons rfl)) (ih2 (k + 1) _ _ _ hc3 (.refl _) (by omega) (by omega) trivial)
          · apply ct_exit
            apply exit_eq; exact rfl
            apply ct_region
            apply seq_plain; exact do_succ rfl (by omega); exact rfl
            apply seq_plain; exact do_move rfl; exact rfl
            apply seq_nil
            have ih := ih (i + 1) h3 lo3 [] hc3 hh3 (by omega) (by omega) trivial
            rw [e4] at ih
            exact lt_sub (by repeat (first | exact sub_nil | apply sub_cons rfl)) ih
      · simp only [decide_eq_false_iff_not, Int.ofNat_lt] at h3
        obtain ⟨j, hj, hbj⟩ := some_first hg
        have e : someTo pts opn i = true := by
          unfold someTo
          rw [List.any_eq_true]
          exact ⟨j, List.mem_range.2 (by omega), bestTo_hd.2 hbj⟩
        apply ct_exit
        apply exit_eq; exact rfl
        apply ct_seq
        apply ct_region
        apply seq_plain; exact do_move rfl; exact rfl
        apply seq_plain; exact do_assign rfl; exact rfl
        apply seq_nil
        apply ct_ret
        refine fin_flatB hc hc' hE rfl rfl ⟨?_, rfl⟩
        rw [e]; rfl
end Go.Proofs.YtiggikjbknoohaaGreatDoor
