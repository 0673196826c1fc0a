/- Contracts: plans, what is wrong with them. -/
import Derived.Test.YtiggikjbknoohaaGreatDoorElB
import Derived.Test.YtiggikjbknoohaaGreatDoorSxT
noncomputable section
namespace Go.Proofs.YtiggikjbknoohaaGreatDoor
open Go Go.Den
set_option maxRecDepth 100000

/-- the days on which a team is busy -/
structure Bz where
  p : Option Addr
  c : Nat
  l : List Int
def bz (x : Bz) : List Value := [.slice x.p x.l.length x.c]
structure BzAt (H : AHeap) (q : Option Addr) (busy : List Bz) : Prop where
  at_ : SlAt H 1 bz q busy
  each : ∀ x ∈ busy, SlAt H 1 i1 x.p x.l
theorem BzAt.ext {H H' : AHeap} {q : Option Addr} {busy : List Bz} (h : BzAt H q busy) (hE : Ext H H') : BzAt H' q busy := ⟨h.at_.ext hE, fun x hx => (h.each x hx).ext hE⟩
abbrev Pv (mq : Option Addr) (mn mc : Nat) (bq : Option Addr) (bn bc : Nat) (frm to : Int) : Value := .agg ⟨[.slice mq mn mc, .slice bq bn bc, I frm, I to]⟩
theorem bz_get {busy : List Bz} {cs : List Value} {o i n : Nat} (hw : ∀ i (h : i < busy.length), sliceIn cs (o + i * 1) 1 = some (bz busy[i])) (h : i < busy.length) : pt false n cs (o + i * 1) = some (.slice busy[i].p busy[i].l.length busy[i].c) := by
  have := sliceIn_at (hw i h) (j := 0) (by omega)
  simpa [pt, bz] using this

def shortP (m : List (Int × Int)) (busy : List Bz) : Bool := (busy.take 25).all (fun x => decide (x.l.length ≤ 259)) && (decide (busy.length ≤ 27) && decide (m.length ≤ 11))
theorem shortPlan_c {H : AHeap} {mq bq : Option Addr} {mc bc : Nat} {m : List (Int × Int)} {busy : List Bz} {frm to : Int} (hb : BzAt H bq busy) :
    Ret Tryz.prog 35 [Pv mq m.length mc bq busy.length bc frm to] H (.bool (shortP m busy)) H := by
  refine fn_start Tryz.func35 rfl rfl rfl fun hc => ?_
  apply ct_seq
  apply ct_region
  apply seq_newP; exact do_box rfl rfl rfl; exact rfl
  apply seq_plain; exact do_assign rfl; exact rfl
  apply seq_nil
  apply ct_seq
  apply ct_seq
  apply ct_region
  apply seq_plain; exact do_assign rfl; exact rfl
  apply seq_nil
  apply ct_block
  apply ct_loop
  refine lt_up (fun i => [(1, .pointer (some ⟨nb H 0, 0, none⟩)), (3, I i)]) (fun i => ∀ j (hj : j < busy.length), j < i → busy[j].l.length ≤ 259) 25 (fun i hi hJ ih => ?_) 0 (by omega) (by intros; omega) (by repeat (first | exact sub_nil | apply sub_cons rfl))
  apply ct_seq
  apply ct_seq
  apply ct_region
  apply seq_plain; exact do_move rfl; exact rfl
  apply seq_plain; exact do_fieldAddr rfl rfl; exact rfl
  apply seq_plain; exact do_load rfl (by exact ext_get_new rfl) rfl (by exact rfl); exact rfl
  apply seq_plain; exact do_lenS rfl rfl rfl; exact rfl
  apply seq_plain; exact do_binInt rfl rfl rfl trivial; exact rfl
  apply seq_plain; exact do_move rfl; exact rfl
  have e : (decide ((i : Int) < busy.length) && decide ((i : Int) ≤ 24)) = decide (i < busy.length ∧ i ≤ 24) := by
    rw [Bool.eq_iff_iff]; simp; omega
  refine seq_J [(1, .pointer (some ⟨nb H 0, 0, none⟩)), (3, I i), (12, .bool (decide (i < busy.length ∧ i ≤ 24)))] (ds := []) (h := ext H H.fresh [some (.cells [.slice mq m.length mc, .slice bq busy.length bc, I frm, I to] 0 false false)]) ?_ ?_
  · rw [← e]
    refine seq_gsplit rfl rfl (fun u1 => ?_) (fun u1 => ?_)
    · rw [u1]
      apply seq_guard (hd := rfl) (hl := rfl); exact do_move rfl; exact rfl
      apply seq_guard (hd := rfl) (hl := rfl); exact do_binInt rfl rfl rfl trivial; exact rfl
      apply seq_plain; exact do_pick_t rfl rfl; exact rfl
      apply seq_nil
      exact jp_of (by repeat (first | exact sub_nil | apply sub_cons rfl))
    · rw [u1]
      apply seq_passed (hd := rfl) (hl := rfl) (hb := rfl); exact rfl
      apply seq_passed (hd := rfl) (hl := rfl) (hb := rfl); exact rfl
      apply seq_plain; exact do_pick_f rfl rfl; exact rfl
      apply seq_nil
      exact jp_of (by repeat (first | exact sub_nil | apply sub_cons rfl))
  skip
  refine ct_cond rfl (fun h1 => ?_) (fun h1 => ?_)
  · simp only [decide_eq_true_eq] at h1
    obtain ⟨h1, h24⟩ := h1
    obtain ⟨b, o, cs, z, s, ro, rfl, hg, hw⟩ := hb.at_.out (by intro e; rw [e] at h1; simp at h1)
    apply ct_skip
    apply ct_seq
    apply ct_block
    apply ct_seq
    apply ct_region
    apply seq_plain; exact do_fieldAddr rfl rfl; exact rfl
    apply seq_plain; exact do_load rfl (by exact ext_get_new rfl) rfl (by exact rfl); exact rfl
    apply seq_plain; exact do_move rfl; exact rfl
    apply seq_plain; exact do_indexAddrS rfl rfl rfl (by exact idx_nat (by omega)); exact rfl
    apply seq_plain; exact do_load rfl (by exact ext_get_old (by assumption) (by assumption)) rfl (by exact bz_get (by assumption) (by omega)); exact rfl
    apply seq_plain; exact do_lenS rfl rfl rfl; exact rfl
    apply seq_plain; exact do_binInt rfl rfl rfl trivial; exact rfl
    apply seq_nil
    refine ct_cond rfl (fun h2 => ?_) (fun h2 => ?_)
    · simp only [decide_eq_true_eq] at h2
      apply ct_seq
      apply ct_region
      apply seq_plain; exact do_assign rfl; exact rfl
      apply seq_nil
      apply ct_ret
      refine fin_flat hc rfl rfl ⟨?_, rfl⟩
      have : (busy.take 25).all (fun x => decide (x.l.length ≤ 259)) = false := by
        rw [List.all_eq_false]
        refine ⟨busy[i], List.mem_take_iff_getElem.2 ⟨i, by omega, rfl⟩, by simp; omega⟩
      simp [packA, shortP, this]
    · simp only [decide_eq_false_iff_not] at h2
      apply ct_skip
      apply ct_region
      apply seq_plain; exact do_move rfl; exact rfl
      apply seq_plain; exact do_succ rfl (by omega); exact rfl
      apply seq_plain; exact do_assign rfl; exact rfl
      apply seq_nil
      refine lt_sub (by repeat (first | exact sub_nil | apply sub_cons rfl)) (ih (i + 1) (by omega) (by omega) fun j hj hji => ?_)
      rcases Nat.lt_or_ge j i with h | h
      · exact hJ j hj h
      · have : j = i := by omega
        subst this; omega
  · simp only [decide_eq_false_iff_not] at h1
    have hall : (busy.take 25).all (fun x => decide (x.l.length ≤ 259)) = true := by
      rw [List.all_eq_true]
      intro x hx
      obtain ⟨j, hj, rfl⟩ := List.mem_take_iff_getElem.1 hx
      have := hJ j (by omega) (by omega)
      simpa using this
    have e1 : decide ((busy.length : Int) ≤ 27) = decide (busy.length ≤ 27) := by rw [Bool.eq_iff_iff]; simp; omega
    have e2 : decide ((m.length : Int) ≤ 11) = decide (m.length ≤ 11) := by rw [Bool.eq_iff_iff]; simp; omega
    apply ct_exit
    apply exit_eq; exact rfl
    apply ct_seq
    apply ct_region
    apply seq_plain; exact do_fieldAddr rfl rfl; exact rfl
    apply seq_plain; exact do_load rfl (by exact ext_get_new rfl) rfl (by exact rfl); exact rfl
    apply seq_plain; exact do_lenS rfl rfl rfl; exact rfl
    apply seq_plain; exact do_binInt rfl rfl rfl trivial; exact rfl
    apply seq_plain; exact do_move rfl; exact rfl
    refine seq_gsplit rfl rfl (fun u1 => ?_) (fun u1 => ?_)
    · have u1 : decide ((busy.length : Int) ≤ 27) = true := u1
      apply seq_guard (hd := rfl) (hl := rfl); exact do_fieldAddr rfl rfl; exact rfl
      apply seq_guard (hd := rfl) (hl := rfl); exact do_load rfl (by exact ext_get_new rfl) rfl (by exact rfl); exact rfl
      apply seq_guard (hd := rfl) (hl := rfl); exact do_lenS rfl rfl rfl; exact rfl
      apply seq_guard (hd := rfl) (hl := rfl); exact do_binInt rfl rfl rfl trivial; exact rfl
      apply seq_plain; exact do_pick_t rfl rfl; exact rfl
      apply seq_plain; exact do_assign rfl; exact rfl
      apply seq_nil
      apply ct_ret
      refine fin_flat hc rfl rfl ⟨?_, rfl⟩
      rw [e1] at u1
      unfold shortP
      rw [hall, u1, ← e2]; rfl
    · have u1 : decide ((busy.length : Int) ≤ 27) = false := u1
      apply seq_passed (hd := rfl) (hl := rfl) (hb := rfl); exact rfl
      apply seq_passed (hd := rfl) (hl := rfl) (hb := rfl); exact rfl
      apply seq_passed (hd := rfl) (hl := rfl) (hb := rfl); exact rfl
      apply seq_passed (hd := rfl) (hl := rfl) (hb := rfl); exact rfl
      apply seq_plain; exact do_pick_f rfl rfl; exact rfl
      apply seq_plain; exact do_assign rfl; exact rfl
      apply seq_nil
      apply ct_ret
      refine fin_flat hc rfl rfl ⟨?_, rfl⟩
      rw [e1] at u1
      unfold shortP
      rw [hall, u1]; rfl

def dayFar (k : Int) : Bool := decide (whenL (outL k 0 99999) 3 ≠ 0)
theorem dayFar_out {k : Int} : dayFar k = outL k 0 99999 := by
  unfold dayFar whenL
  cases outL k 0 99999 <;> rfl
theorem dayFar_c {H : AHeap} {k : Int} : Ret Tryz.prog 107 [I k] H (.bool (dayFar k)) H := by
  refine fn_start Tryz.func107 rfl rfl rfl fun hc => ?_
  apply ct_seq
  apply ct_region
  apply seq_plain; exact do_assign rfl; exact rfl
  apply seq_nil
  apply ct_seq
  apply ct_region
  apply seq_plain; exact do_move rfl; exact rfl
  apply seq_call (ht := rfl); exact within89; exact rfl
  apply seq_plain; exact do_binInt rfl rfl rfl trivial; exact rfl
  apply seq_plain; exact do_assign rfl; exact rfl
  apply seq_nil
  apply ct_ret
  refine fin_flat hc rfl rfl ⟨?_, rfl⟩
  have : (whenL (outL k 0 99999) 3 != 0) = dayFar k := by unfold dayFar; cases outL k 0 99999 <;> rfl
  show Value.bool (whenL (outL k 0 99999) 3 != 0) = _
  rw [this]

def bzE (l : List Int) : Int := firstL [whenL (decide ((l.length : Int) > 256)) 5, whenL (l.any dayFar) 3]
def busyE (busy : List Bz) : Int := firstL (busy.map fun x => bzE x.l)
theorem busyE_at {busy : List Bz} {i : Nat} (hi : i < busy.length) (h : ∀ j (hj : j < busy.length), j < i → bzE busy[j].l = 0) (hne : bzE busy[i].l ≠ 0) : busyE busy = bzE busy[i].l := by
  unfold busyE
  rw [firstL_at (i := i) (by simpa using hi) (fun j hj hji => by simpa using h j (by simpa using hj) hji) (by simpa using hne)]; simp
theorem busyE_none {busy : List Bz} (h : ∀ j (hj : j < busy.length), bzE busy[j].l = 0) : busyE busy = 0 := by
  unfold busyE
  exact firstL_none fun j hj => by simpa using h j (by simpa using hj)
def restE (m : List (Int × Int)) (n : Nat) (frm to : Int) : Int := firstL [whenL (decide ((m.length : Int) > 8)) 5, pairsL n m, whenL (outL frm 0 99999) 3, whenL (outL to 0 99999) 3, whenL (decide (to < frm)) 11, whenL (decide (IntKind.i64.wrap (to - frm) > 366)) 22]
def planE (m : List (Int × Int)) (busy : List Bz) (frm to : Int) : Int :=
  if decide ((busy.length : Int) > 24) = true then 5 else if busyE busy ≠ 0 then busyE busy else restE m busy.length frm to

theorem checkPlan_c {H : AHeap} {mq bq : Option Addr} {mc bc : Nat} {m : List (Int × Int)} {busy : List Bz} {frm to : Int} (hm : SlAt H 2 p2 mq m) (hb : BzAt H bq busy) (hs : shortP m busy = true) :
    Ret Tryz.prog 37 [Pv mq m.length mc bq busy.length bc frm to] H (I (planE m busy frm to)) H := by
  unfold shortP at hs
  simp only [Bool.and_eq_true, decide_eq_true_eq, List.all_eq_true] at hs
  obtain ⟨hs1, hs2, hs3⟩ := hs
  refine fn_start Tryz.func37 rfl rfl rfl fun hc => ?_
  apply ct_seq
  apply ct_region
  apply seq_newP; exact do_box rfl rfl rfl; exact rfl
  apply seq_plain; exact do_assign rfl; exact rfl
  apply seq_nil
  apply ct_seq
  apply ct_seq
  apply ct_region
  apply seq_plain; exact do_fieldAddr rfl rfl; exact rfl
  apply seq_plain; exact do_load rfl (by exact ext_get_new rfl) rfl (by exact rfl); exact rfl
  apply seq_plain; exact do_lenS rfl rfl rfl; exact rfl
  apply seq_plain; exact do_binInt rfl rfl rfl trivial; exact rfl
  apply seq_nil
  refine ct_cond rfl (fun h0 => ?_) (fun h0 => ?_)
  · apply ct_seq
    apply ct_region
    apply seq_plain; exact do_assign rfl; exact rfl
    apply seq_nil
    apply ct_ret
    refine fin_flat hc rfl rfl ⟨?_, rfl⟩
    unfold planE
    rw [if_pos h0]; rfl
  · have h24 : busy.length ≤ 24 := by simp at h0; omega
    have hlen : ∀ j (hj : j < busy.length), busy[j].l.length ≤ 259 := fun j hj => hs1 _ (List.mem_take_iff_getElem.2 ⟨j, by omega, rfl⟩)
    have ep : planE m busy frm to = if busyE busy ≠ 0 then busyE busy else restE m busy.length frm to := by
      unfold planE
      rw [if_neg (by rw [h0]; simp)]
    apply ct_skip
    apply ct_seq
    apply ct_seq
    apply ct_region
    apply seq_plain; exact do_fieldAddr rfl rfl; exact rfl
    apply seq_plain; exact do_load rfl (by exact ext_get_new rfl) rfl (by exact rfl); exact rfl
    apply seq_plain; exact do_lenS rfl rfl rfl; exact rfl
    apply seq_plain; exact do_move rfl; exact rfl
    apply seq_nil
    apply ct_block
    apply ct_loop
    refine lt_upB hc (fun i => [(1, .pointer (some ⟨nb H 0, 0, none⟩)), (12, .slice bq busy.length bc), (13, I busy.length), (14, I i)]) (fun i => ∀ j (hj : j < busy.length), j < i → bzE busy[j].l = 0) busy.length (fun i h lo hc' hE0 hi hJ ih => ?_) 0 (by omega) (by intros; omega) (by repeat (first | exact sub_nil | apply sub_cons rfl))
    have hE := (ext_Ext hc).trans hE0
    have hbox := hE0 _ _ (ext_get_new (k := 0) rfl)
    clear hE0
    apply ct_seq
    apply ct_region
    apply seq_plain; exact do_binInt rfl rfl rfl trivial; exact rfl
    apply seq_nil
    apply ct_seq
    refine ct_cond rfl (fun h1 => ?_) (fun h1 => ?_)
    · simp only [decide_eq_true_eq, Int.ofNat_lt] at h1
      obtain ⟨b, o, cs, z, s, ro, rfl, hg, hw⟩ := hb.at_.out (by intro e; rw [e] at h1; simp at h1)
      have hg := hE _ _ hg
      have hbi := (hb.each _ (List.getElem_mem h1)).ext hE
      have hli := hlen i h1
      apply ct_skip
      apply ct_seq
      apply ct_block
      apply ct_seq
      apply ct_region
      apply seq_plain; exact do_indexAddrS rfl rfl rfl (by exact idx_nat (by omega)); exact rfl
      apply seq_plain; exact do_load rfl (by exact ext_get_old (by assumption) (by assumption)) rfl (by exact bz_get (by assumption) (by omega)); exact rfl
      apply seq_plain; exact do_assign rfl; exact rfl
      apply seq_nil
      apply ct_seq
      apply ct_region
      apply seq_plain; exact do_move rfl; exact rfl
      apply seq_call (ht := rfl); exact has106 (l := busy[i].l) (p := dayFar) (hbi.ext (ext_Ext hc')) (by omega) fun x hx H' h' => dayFar_c; exact rfl
      apply seq_plain; exact do_assign rfl; exact rfl
      apply seq_nil
      apply ct_seq
      apply ct_region
      apply seq_plain; exact do_move rfl; exact rfl
      apply seq_plain; exact do_lenS rfl rfl rfl; exact rfl
      apply seq_plain; exact do_binInt rfl rfl rfl trivial; exact rfl
      apply seq_call (ht := rfl); exact when85; exact rfl
      apply seq_plain; exact do_move rfl; exact rfl
      apply seq_call (ht := rfl); exact when85; exact rfl
      apply seq_newS; exact do_buildSlice rfl rfl rfl rfl rfl rfl rfl; exact rfl
      apply seq_call (ht := rfl); exact first84 (l := [_, _]) (slAt_map (ext_get_new rfl)) (by simp); exact rfl
      apply seq_plain; exact do_assign rfl; exact rfl
      apply seq_nil
      apply ct_seq
      apply ct_region
      apply seq_plain; exact do_move rfl; exact rfl
      apply seq_plain; exact do_binInt rfl rfl rfl trivial; exact rfl
      apply seq_nil
      refine ct_cond rfl (fun d1 => ?_) (fun d1 => ?_)
      · have d1 : bzE busy[i].l ≠ 0 := by simpa [bzE] using d1
        apply ct_seq
        apply ct_region
        apply seq_plain; exact do_move rfl; exact rfl
        apply seq_plain; exact do_assign rfl; exact rfl
        apply seq_nil
        apply ct_ret
        refine fin_flatB hc hc' hE rfl rfl ⟨?_, rfl⟩
        have e := busyE_at h1 hJ d1
        rw [ep, e, if_pos d1]; rfl
      · have d1 : bzE busy[i].l = 0 := by simpa [bzE] using d1
        apply ct_skip
        apply ct_region
        apply seq_plain; exact do_succ rfl (by omega); exact rfl
        apply seq_plain; exact do_move rfl; exact rfl
        apply seq_nil
        refine lt_sub (by repeat (first | exact sub_nil | apply sub_cons rfl)) (ih (i + 1) _ _ _ hc' (.refl _) (by omega) (by omega) fun j hj hji => ?_)
        rcases Nat.lt_or_ge j i with h | h
        · exact hJ j hj h
        · have : j = i := by omega
          subst this; exact d1
    · simp only [decide_eq_false_iff_not, Int.ofNat_lt] at h1
      have e0 : busyE busy = 0 := busyE_none fun j hj => hJ j hj (by omega)
      apply ct_exit
      apply exit_eq; exact rfl
      apply ct_seq
      apply ct_draw (by assumption); decide +kernel
      apply sd_plain (hfree := rfl); intro _; exact do_fieldAddr rfl rfl; exact rfl
      apply sd_look (hfree := rfl); exact do_load rfl (by exact ext_get_old (by assumption) (by assumption)) rfl (by exact rfl); exact rfl
      apply sd_look (hfree := rfl); exact do_lenS rfl rfl rfl; exact rfl
      apply sd_plain (hfree := rfl); intro _; exact do_binInt rfl rfl rfl trivial; exact rfl
      apply sd_call (ht := rfl); exact when85; exact rfl
      apply sd_plain (hfree := rfl); intro _; exact do_fieldAddr rfl rfl; exact rfl
      apply sd_look (hfree := rfl); exact do_load rfl (by exact ext_get_old (by assumption) (by assumption)) rfl (by exact rfl); exact rfl
      apply sd_look (hfree := rfl); exact do_lenS rfl rfl rfl; exact rfl
      apply sd_plain (hfree := rfl); intro _; exact do_fieldAddr rfl rfl; exact rfl
      apply sd_look (hfree := rfl); exact do_load rfl (by exact ext_get_old (by assumption) (by assumption)) rfl (by exact rfl); exact rfl
      apply sd_call (ht := rfl); exact checkPairs_c ((hm.ext hE).ext (ext_Ext hc')) (by omega); exact rfl
      apply sd_plain (hfree := rfl); intro _; exact do_fieldAddr rfl rfl; exact rfl
      apply sd_look (hfree := rfl); exact do_load rfl (by exact ext_get_old (by assumption) (by assumption)) rfl (by exact rfl); exact rfl
      apply sd_call (ht := rfl); exact within89; exact rfl
      apply sd_plain (hfree := rfl); intro _; exact do_fieldAddr rfl rfl; exact rfl
      apply sd_look (hfree := rfl); exact do_load rfl (by exact ext_get_old (by assumption) (by assumption)) rfl (by exact rfl); exact rfl
      apply sd_call (ht := rfl); exact within89; exact rfl
      apply sd_plain (hfree := rfl); intro _; exact do_fieldAddr rfl rfl; exact rfl
      apply sd_look (hfree := rfl); exact do_load rfl (by exact ext_get_old (by assumption) (by assumption)) rfl (by exact rfl); exact rfl
      apply sd_plain (hfree := rfl); intro _; exact do_fieldAddr rfl rfl; exact rfl
      apply sd_look (hfree := rfl); exact do_load rfl (by exact ext_get_old (by assumption) (by assumption)) rfl (by exact rfl); exact rfl
      apply sd_plain (hfree := rfl); intro _; exact do_binInt rfl rfl rfl trivial; exact rfl
      apply sd_call (ht := rfl); exact when85; exact rfl
      apply sd_plain (hfree := rfl); intro _; exact do_fieldAddr rfl rfl; exact rfl
      apply sd_look (hfree := rfl); exact do_load rfl (by exact ext_get_old (by assumption) (by assumption)) rfl (by exact rfl); exact rfl
      apply sd_plain (hfree := rfl); intro _; exact do_fieldAddr rfl rfl; exact rfl
      apply sd_look (hfree := rfl); exact do_load rfl (by exact ext_get_old (by assumption) (by assumption)) rfl (by exact rfl); exact rfl
      apply sd_plain (hfree := rfl); intro _; exact do_binInt rfl rfl rfl trivial; exact rfl
      apply sd_plain (hfree := rfl); intro _; exact do_binInt rfl rfl rfl trivial; exact rfl
      apply sd_call (ht := rfl); exact when85; exact rfl
      apply sd_newS (hfree := rfl); exact do_buildSlice rfl rfl rfl rfl rfl rfl rfl; exact rfl
      apply sd_callM (ht := rfl) (hw := rfl); decide +kernel; exact first84 (l := [_, _, _, _, _, _]) (slAt_map (ext_get_new rfl)) (by simp); exact rfl
      apply sd_plain (hfree := rfl); intro _; exact do_assign rfl; exact rfl
      apply sd_nil
      apply ct_ret
      refine fin_flatB hc hc' hE rfl rfl ⟨?_, rfl⟩
      rw [ep, e0, if_neg (by simp)]; rfl
end Go.Proofs.YtiggikjbknoohaaGreatDoor
