/- Contracts: the reference's check of matches. -/
import Derived.Test.YtiggikjbknoohaaGreatDoorTcA
import Derived.Test.YtiggikjbknoohaaGreatDoorFnK
noncomputable section
namespace Go.Proofs.YtiggikjbknoohaaGreatDoor
open Go Go.Den
set_option maxRecDepth 100000

/-- the first error of elements that are told those before them -/
def errG {α : Type} (err : List α → α → Int) (l : List α) (i : Nat) : Int := match l[i]? with
  | some x => err (l.take i) x
  | none => 0
def restG {α : Type} (err : List α → α → Int) (l : List α) : Int := firstL ((List.range l.length).map (errG err l))
section
variable {α : Type} {err : List α → α → Int} {l : List α}
theorem errG_at {i : Nat} (h : i < l.length) : errG err l i = err (l.take i) l[i] := by simp [errG, h]
theorem restG_at {i : Nat} (hi : i < l.length) (h : ∀ j, j < i → errG err l j = 0) (hne : errG err l i ≠ 0) : restG err l = errG err l i := by
  have := firstL_at (l := (List.range l.length).map (errG err l)) (i := i) (by simpa using hi) (fun j hj hji => by simpa using h j hji) (by simpa using hne)
  simpa [restG] using this
theorem restG_none (h : ∀ j, j < l.length → errG err l j = 0) : restG err l = 0 :=
  firstL_none fun j hj => by
    have hj' : j < l.length := by simpa using hj
    simpa using h j hj'
theorem anyG_t {p : α → Bool} {i j : Nat} (hj : j < l.length) (hji : j < i) (h : p l[j] = true) : (l.take i).any p = true := by
  rw [List.any_eq_true]
  refine ⟨l[j], ?_, h⟩
  have hlt : j < (l.take i).length := by rw [List.length_take]; omega
  have := List.getElem_mem hlt
  rwa [List.getElem_take] at this
theorem anyG_f {p : α → Bool} {i : Nat} (h : ∀ j (hj : j < l.length), j < i → p l[j] = false) : (l.take i).any p = false := by
  rw [List.any_eq_false]
  intro x hx
  obtain ⟨j, hj, rfl⟩ := List.getElem_of_mem hx
  rw [List.length_take] at hj
  rw [List.getElem_take, h j (by omega) (by omega)]
  simp
end
def sameM (m x : Ma) : Bool := (x.home == m.home) && (x.away == m.away)
def walkB (m : Ma) : Bool := (!decide (m.kind = kPlayed)) && (m.fr != 0 || m.ag != 0)
def mErr (n : Int) (pre : List Ma) (m : Ma) : Int := firstL [pairL n m.home m.away, whenL (!isKind m.kind) 13, whenL (outL m.fr 0 99) 3, whenL (outL m.ag 0 99) 3, whenL (walkB m) 1, whenL (pre.any (sameM m)) 17]
def topM (n : Int) (l : List Ma) : Int := firstL [whenL (outL n 2 24) 3, whenL (decide ((l.length : Int) > 600)) 5]
def chkM (n : Int) (l : List Ma) : Int := if topM n l = 0 then restG (mErr n) l else topM n l
section
variable {n : Int} {pre : List Ma} {m : Ma}
theorem mErr1 (h : [m.home, m.away].any (unknownL n) = true) : mErr n pre m = 10 := by simp [mErr, pairL, firstL, whenL, h]
theorem mErr2 (h : [m.home, m.away].any (unknownL n) = false) (h2 : (m.home == m.away) = true) : mErr n pre m = 9 := by simp [mErr, pairL, firstL, whenL, h, h2]
theorem mErr3 (h : [m.home, m.away].any (unknownL n) = false) (h2 : (m.home == m.away) = false) (h3 : isKind m.kind = false) : mErr n pre m = 13 := by simp [mErr, pairL, firstL, whenL, h, h2, h3]
theorem mErr4 (h : [m.home, m.away].any (unknownL n) = false) (h2 : (m.home == m.away) = false) (h3 : isKind m.kind = true) (h4 : (outL m.fr 0 99 || outL m.ag 0 99) = true) : mErr n pre m = 3 := by
  cases h5 : outL m.fr 0 99
  · rw [h5, Bool.false_or] at h4
    simp [mErr, pairL, firstL, whenL, h, h2, h3, h4, h5]
  · simp [mErr, pairL, firstL, whenL, h, h2, h3, h5]
theorem mErr5 (h : [m.home, m.away].any (unknownL n) = false) (h2 : (m.home == m.away) = false) (h3 : isKind m.kind = true) (h4 : (outL m.fr 0 99 || outL m.ag 0 99) = false) (h5 : walkB m = true) : mErr n pre m = 1 := by
  rw [Bool.or_eq_false_iff] at h4
  simp [mErr, pairL, firstL, whenL, h, h2, h3, h4.1, h4.2, h5]
theorem mErr6 (h : [m.home, m.away].any (unknownL n) = false) (h2 : (m.home == m.away) = false) (h3 : isKind m.kind = true) (h4 : (outL m.fr 0 99 || outL m.ag 0 99) = false) (h5 : walkB m = false) (h6 : pre.any (sameM m) = true) : mErr n pre m = 17 := by
  rw [Bool.or_eq_false_iff] at h4
  simp [mErr, pairL, firstL, whenL, h, h2, h3, h4.1, h4.2, h5, h6]
theorem mErr0 (h : [m.home, m.away].any (unknownL n) = false) (h2 : (m.home == m.away) = false) (h3 : isKind m.kind = true) (h4 : (outL m.fr 0 99 || outL m.ag 0 99) = false) (h5 : walkB m = false) (h6 : pre.any (sameM m) = false) : mErr n pre m = 0 := by
  rw [Bool.or_eq_false_iff] at h4
  simp [mErr, pairL, firstL, whenL, h, h2, h3, h4.1, h4.2, h5, h6]
end
set_option maxHeartbeats 2000000 in
theorem checkMatches19 {H : AHeap} {n : Int} {q : Option Addr} {c : Nat} {l : List Ma} (hs : SlAt H 5 mt q l) (hn : l.length < 1000000000000) :
    Ret Tryz.prog 19 [I n, .slice q l.length c] H (I (chkM n l)) H := by
  refine fn_start Tryz.func19 rfl rfl rfl fun hc => ?_
  apply ct_seq
  apply ct_region
  apply seq_plain; exact do_assign rfl; exact rfl
  apply seq_nil
  apply ct_seq
  apply ct_seq
  apply ct_region
  apply seq_plain; exact do_move rfl; exact rfl
  apply seq_call (ht := rfl); exact checkTeams72; exact rfl
  apply seq_plain; exact do_assign rfl; exact rfl
  apply seq_nil
  apply ct_seq
  apply ct_region
  apply seq_plain; exact do_move rfl; exact rfl
  apply seq_plain; exact do_binInt rfl rfl rfl trivial; exact rfl
  apply seq_nil
  refine ct_cond rfl (fun hb => ?_) (fun hb => ?_)
  · have hb : outL n 2 24 = true := by
      cases h : outL n 2 24
      · rw [h] at hb; simp [whenL] at hb
      · rfl
    apply ct_seq
    apply ct_region
    apply seq_plain; exact do_move rfl; exact rfl
    apply seq_plain; exact do_assign rfl; exact rfl
    apply seq_nil
    apply ct_ret
    refine fin_flat hc rfl rfl ⟨?_, rfl⟩
    have : topM n l = 3 := by simp [topM, firstL, whenL, hb]
    simp [packA, chkM, this, hb, whenL]
  have hb : outL n 2 24 = false := by
    cases h : outL n 2 24
    · rfl
    · rw [h] at hb; simp [whenL] at hb
  have hnb := outL_f hb
  apply ct_skip
  apply ct_seq
  apply ct_seq
  apply ct_region
  apply seq_plain; exact do_move rfl; exact rfl
  apply seq_plain; exact do_lenS rfl rfl rfl; exact rfl
  apply seq_plain; exact do_binInt rfl rfl rfl trivial; exact rfl
  apply seq_nil
  refine ct_cond rfl (fun h0 => ?_) (fun h0 => ?_)
  · apply ct_seq
    apply ct_region
    apply seq_plain; exact do_assign rfl; exact rfl
    apply seq_nil
    apply ct_ret
    refine fin_flat hc rfl rfl ⟨?_, rfl⟩
    simp only [decide_eq_true_eq] at h0
    have : topM n l = 5 := by simp [topM, firstL, whenL, hb, h0]
    simp [packA, chkM, this]
  simp only [decide_eq_false_iff_not] at h0
  have ht : topM n l = 0 := by simp [topM, firstL, whenL, hb, h0]
  apply ct_skip
  apply ct_seq
  apply ct_seq
  apply ct_region
  apply seq_plain; exact do_assign rfl; exact rfl
  apply seq_nil
  apply ct_block
  apply ct_loop
  refine lt_upB hc (fun i => [(0, I n), (1, .slice q l.length c), (6, I i)]) (fun i => ∀ j, j < i → errG (mErr n) l j = 0) l.length (fun i h lo hc' hE0 hi hJ ih => ?_) 0 (by omega) (by intros; omega) (by repeat (first | exact sub_nil | apply sub_cons rfl))
  have hE := (ext_Ext hc).trans hE0
  clear hE0
  apply ct_seq
  apply ct_seq
  apply ct_region
  apply seq_plain; exact do_move rfl; exact rfl
  apply seq_plain; exact do_move rfl; exact rfl
  apply seq_plain; exact do_lenS rfl rfl rfl; exact rfl
  apply seq_plain; exact do_binInt rfl rfl rfl trivial; exact rfl
  apply seq_nil
  refine ct_cond rfl (fun h1 => ?_) (fun h1 => ?_)
  rotate_left
  · have h1 : i = l.length := by simp at h1; omega
    subst h1
    apply ct_exit
    apply exit_eq; exact rfl
    apply ct_seq
    apply ct_region
    apply seq_plain; exact do_assign rfl; exact rfl
    apply seq_nil
    apply ct_ret
    refine fin_flatB hc hc' hE rfl rfl ⟨?_, rfl⟩
    simp only [chkM]; rw [if_pos ht, restG_none hJ]; rfl
  simp only [decide_eq_true_eq, Int.ofNat_lt] at h1
  have bad : ∀ e, mErr n (l.take i) l[i] = e → e ≠ 0 → chkM n l = e := fun e he hne => by
    rw [← errG_at (err := mErr n) h1] at he
    simp only [chkM]; rw [if_pos ht, restG_at h1 hJ (by rw [he]; exact hne), he]
  have hs' := hs
  obtain ⟨b, o, cs, z, s, ro, rfl, hg, hw⟩ := hs.out (by intro e; rw [e] at h1; simp at h1)
  have hg := hE _ _ hg
  apply ct_skip
  apply ct_seq
  apply ct_block
  apply ct_seq
  apply ct_region
  apply seq_plain; exact do_move rfl; exact rfl
  apply seq_plain; exact do_move rfl; exact rfl
  apply seq_plain; exact do_indexAddrS rfl rfl rfl (by exact idx_nat (by omega)); exact rfl
  apply seq_plain; exact do_load rfl (by exact ext_get_old (by assumption) (by assumption)) rfl (by exact pt_sl (by assumption) (by omega)); exact rfl
  apply seq_newP; exact do_alloc rfl rfl; exact rfl
  apply seq_putC (hc := by assumption); rotate_left; exact do_store rfl rfl (by exact ext_get_new rfl) rfl rfl (nb_own _); rotate_left; exact Nat.le_of_ble_eq_true rfl
  apply ct_seq
  apply ct_seq
  apply ct_region
  apply seq_plain; exact do_fieldAddr rfl rfl; exact rfl
  apply seq_plain; exact do_load rfl (by exact ext_get_new rfl) rfl (by exact rfl); exact rfl
  apply seq_plain; exact do_move rfl; exact rfl
  apply seq_plain; exact do_sub rfl rfl (by omega); exact rfl
  apply seq_call (ht := rfl); exact outside24; exact rfl
  apply seq_plain; exact do_move rfl; exact rfl
  refine seq_J [(0, I n), (1, .slice (some ⟨b, o, none⟩) l.length c), (6, I i), (7, .pointer (some ⟨nb h 0, 0, none⟩)), (38, .bool ([l[i].home, l[i].away].any (unknownL n)))] (ds := []) (h := ext h lo [some (.cells (mt l[i]) 0 false false)]) ?_ ?_
  · refine seq_gsplit rfl rfl (fun u1 => ?_) (fun u1 => ?_)
    · have e : [l[i].home, l[i].away].any (unknownL n) = true := by
        have u1 : outL l[i].home 0 (n - 1) = true := u1
        simp [outL] at u1
        simp [unknownL]; omega
      rw [e]
      apply seq_passed (hd := rfl) (hl := rfl) (hb := rfl); exact rfl
      apply seq_passed (hd := rfl) (hl := rfl) (hb := rfl); exact rfl
      apply seq_passed (hd := rfl) (hl := rfl) (hb := rfl); exact rfl
      apply seq_passed (hd := rfl) (hl := rfl) (hb := rfl); exact rfl
      apply seq_passed (hd := rfl) (hl := rfl) (hb := rfl); exact rfl
      apply seq_plain; exact do_pick_t rfl rfl; exact rfl
      apply seq_nil
      exact jp_of (by repeat (first | exact sub_nil | apply sub_cons rfl))
    · have e : [l[i].home, l[i].away].any (unknownL n) = outL l[i].away 0 (n - 1) := by
        have u1 : outL l[i].home 0 (n - 1) = false := u1
        simp [outL] at u1
        rw [Bool.eq_iff_iff]
        simp [unknownL, outL]; omega
      rw [e]
      apply seq_guard (hd := rfl) (hl := rfl); exact do_fieldAddr rfl rfl; exact rfl
      apply seq_guard (hd := rfl) (hl := rfl); exact do_load rfl (by exact ext_get_new rfl) rfl (by exact rfl); exact rfl
      apply seq_guard (hd := rfl) (hl := rfl); exact do_move rfl; exact rfl
      apply seq_guard (hd := rfl) (hl := rfl); exact do_sub rfl rfl (by omega); exact rfl
      apply seq_gcall (hg := rfl) (hl := rfl) (ht := rfl); exact outside24; exact rfl
      apply seq_plain; exact do_pick_f rfl rfl; exact rfl
      apply seq_nil
      exact jp_of (by repeat (first | exact sub_nil | apply sub_cons rfl))
  refine ct_cond rfl (fun d2 => ?_) (fun d2 => ?_)
  · apply ct_seq
    apply ct_region
    apply seq_plain; exact do_assign rfl; exact rfl
    apply seq_nil
    apply ct_ret
    refine fin_flatB hc hc' hE rfl rfl ⟨?_, rfl⟩
    rw [bad _ (mErr1 d2) (by decide)]; rfl
  apply ct_skip
  apply ct_seq
  apply ct_seq
  apply ct_region
  apply seq_plain; exact do_fieldAddr rfl rfl; exact rfl
  apply seq_plain; exact do_load rfl (by exact ext_get_new rfl) rfl (by exact rfl); exact rfl
  apply seq_plain; exact do_fieldAddr rfl rfl; exact rfl
  apply seq_plain; exact do_load rfl (by exact ext_get_new rfl) rfl (by exact rfl); exact rfl
  apply seq_plain; exact do_binInt rfl rfl rfl trivial; exact rfl
  apply seq_nil
  refine ct_cond rfl (fun d3 => ?_) (fun d3 => ?_)
  · have d3 : (l[i].home == l[i].away) = true := d3
    apply ct_seq
    apply ct_region
    apply seq_plain; exact do_assign rfl; exact rfl
    apply seq_nil
    apply ct_ret
    refine fin_flatB hc hc' hE rfl rfl ⟨?_, rfl⟩
    rw [bad _ (mErr2 d2 d3) (by decide)]; rfl
  have d3 : (l[i].home == l[i].away) = false := d3
  apply ct_skip
  apply ct_seq
  apply ct_seq
  apply ct_region
  apply seq_plain; exact do_fieldAddr rfl rfl; exact rfl
  apply seq_plain; exact do_load rfl (by exact ext_get_new rfl) rfl (by exact rfl); exact rfl
  apply seq_plain; exact do_binStr rfl rfl rfl; exact rfl
  apply seq_plain; exact do_move rfl; exact rfl
  refine seq_J [(0, I n), (1, .slice (some ⟨b, o, none⟩) l.length c), (6, I i), (7, .pointer (some ⟨nb h 0, 0, none⟩)), (56, .bool (!isKind l[i].kind))] (ds := []) (h := ext h lo [some (.cells (mt l[i]) 0 false false)]) ?_ ?_
  · refine seq_gsplit rfl rfl (fun u1 => ?_) (fun u1 => ?_)
    · have u1 : (!byteL l[i].kind.data.toList kPlayed.data.toList) = true := u1
      rw [bytes_eq] at u1
      have u1 : decide (l[i].kind = kPlayed) = false := by simpa using u1
      apply seq_guard (hd := rfl) (hl := rfl); exact do_fieldAddr rfl rfl; exact rfl
      apply seq_guard (hd := rfl) (hl := rfl); exact do_load rfl (by exact ext_get_new rfl) rfl (by exact rfl); exact rfl
      apply seq_guard (hd := rfl) (hl := rfl); exact do_binStr rfl rfl rfl; exact rfl
      apply seq_plain; exact do_pick_t rfl rfl; exact rfl
      apply seq_plain; exact do_move rfl; exact rfl
      refine seq_gsplit rfl rfl (fun u2 => ?_) (fun u2 => ?_)
      · have u2 : (!byteL l[i].kind.data.toList kHome.data.toList) = true := u2
        rw [bytes_eq] at u2
        have u2 : decide (l[i].kind = kHome) = false := by simpa using u2
        have e : (!isKind l[i].kind) = (!byteL l[i].kind.data.toList kAway.data.toList) := by
          rw [bytes_eq]; simp only [isKind, u1, u2, Bool.false_or]
        rw [e]
        apply seq_guard (hd := rfl) (hl := rfl); exact do_fieldAddr rfl rfl; exact rfl
        apply seq_guard (hd := rfl) (hl := rfl); exact do_load rfl (by exact ext_get_new rfl) rfl (by exact rfl); exact rfl
        apply seq_guard (hd := rfl) (hl := rfl); exact do_binStr rfl rfl rfl; exact rfl
        apply seq_plain; exact do_pick_t rfl rfl; exact rfl
        apply seq_nil
        exact jp_of (by repeat (first | exact sub_nil | apply sub_cons rfl))
      · have u2 : (!byteL l[i].kind.data.toList kHome.data.toList) = false := u2
        rw [bytes_eq] at u2
        have u2 : decide (l[i].kind = kHome) = true := by simpa using u2
        have e : (!isKind l[i].kind) = false := by simp only [isKind, u1, u2, Bool.false_or, Bool.true_or, Bool.not_true]
        rw [e]
        apply seq_passed (hd := rfl) (hl := rfl) (hb := rfl); exact rfl
        apply seq_passed (hd := rfl) (hl := rfl) (hb := rfl); exact rfl
        apply seq_passed (hd := rfl) (hl := rfl) (hb := rfl); exact rfl
        apply seq_plain; exact do_pick_f rfl rfl; exact rfl
        apply seq_nil
        exact jp_of (by repeat (first | exact sub_nil | apply sub_cons rfl))
    · have u1 : (!byteL l[i].kind.data.toList kPlayed.data.toList) = false := u1
      rw [bytes_eq] at u1
      have u1 : decide (l[i].kind = kPlayed) = true := by simpa using u1
      have e : (!isKind l[i].kind) = false := by simp only [isKind, u1, Bool.true_or, Bool.not_true]
      rw [e]
      apply seq_passed (hd := rfl) (hl := rfl) (hb := rfl); exact rfl
      apply seq_passed (hd := rfl) (hl := rfl) (hb := rfl); exact rfl
      apply seq_passed (hd := rfl) (hl := rfl) (hb := rfl); exact rfl
      apply seq_plain; exact do_pick_f rfl rfl; exact rfl
      apply seq_plain; exact do_move rfl; exact rfl
      apply seq_passed (hd := rfl) (hl := rfl) (hb := rfl); exact rfl
      apply seq_passed (hd := rfl) (hl := rfl) (hb := rfl); exact rfl
      apply seq_passed (hd := rfl) (hl := rfl) (hb := rfl); exact rfl
      apply seq_plain; exact do_pick_f rfl rfl; exact rfl
      apply seq_nil
      exact jp_of (by repeat (first | exact sub_nil | apply sub_cons rfl))
  refine ct_cond rfl (fun d4 => ?_) (fun d4 => ?_)
  · have d4 : isKind l[i].kind = false := by simpa using d4
    apply ct_seq
    apply ct_region
    apply seq_plain; exact do_assign rfl; exact rfl
    apply seq_nil
    apply ct_ret
    refine fin_flatB hc hc' hE rfl rfl ⟨?_, rfl⟩
    rw [bad _ (mErr3 d2 d3 d4) (by decide)]; rfl
  have d4 : isKind l[i].kind = true := by simpa using d4
  apply ct_skip
  apply ct_seq
  apply ct_seq
  apply ct_region
  apply seq_plain; exact do_fieldAddr rfl rfl; exact rfl
  apply seq_plain; exact do_load rfl (by exact ext_get_new rfl) rfl (by exact rfl); exact rfl
  apply seq_call (ht := rfl); exact outside24; exact rfl
  apply seq_plain; exact do_move rfl; exact rfl
  refine seq_J [(0, I n), (1, .slice (some ⟨b, o, none⟩) l.length c), (6, I i), (7, .pointer (some ⟨nb h 0, 0, none⟩)), (64, .bool (outL l[i].fr 0 99 || outL l[i].ag 0 99))] (ds := []) (h := ext h lo [some (.cells (mt l[i]) 0 false false)]) ?_ ?_
  · refine seq_gsplit rfl rfl (fun u1 => ?_) (fun u1 => ?_)
    · have u1 : outL l[i].fr 0 99 = true := u1
      rw [u1, Bool.true_or]
      apply seq_passed (hd := rfl) (hl := rfl) (hb := rfl); exact rfl
      apply seq_passed (hd := rfl) (hl := rfl) (hb := rfl); exact rfl
      apply seq_passed (hd := rfl) (hl := rfl) (hb := rfl); exact rfl
      apply seq_plain; exact do_pick_t rfl rfl; exact rfl
      apply seq_nil
      exact jp_of (by repeat (first | exact sub_nil | apply sub_cons rfl))
    · have u1 : outL l[i].fr 0 99 = false := u1
      rw [u1, Bool.false_or]
      apply seq_guard (hd := rfl) (hl := rfl); exact do_fieldAddr rfl rfl; exact rfl
      apply seq_guard (hd := rfl) (hl := rfl); exact do_load rfl (by exact ext_get_new rfl) rfl (by exact rfl); exact rfl
      apply seq_gcall (hg := rfl) (hl := rfl) (ht := rfl); exact outside24; exact rfl
      apply seq_plain; exact do_pick_f rfl rfl; exact rfl
      apply seq_nil
      exact jp_of (by repeat (first | exact sub_nil | apply sub_cons rfl))
  refine ct_cond rfl (fun d5 => ?_) (fun d5 => ?_)
  · apply ct_seq
    apply ct_region
    apply seq_plain; exact do_assign rfl; exact rfl
    apply seq_nil
    apply ct_ret
    refine fin_flatB hc hc' hE rfl rfl ⟨?_, rfl⟩
    rw [bad _ (mErr4 d2 d3 d4 d5) (by decide)]; rfl
  apply ct_skip
  apply ct_seq
  apply ct_seq
  apply ct_region
  apply seq_plain; exact do_fieldAddr rfl rfl; exact rfl
  apply seq_plain; exact do_load rfl (by exact ext_get_new rfl) rfl (by exact rfl); exact rfl
  apply seq_plain; exact do_binStr rfl rfl rfl; exact rfl
  apply seq_plain; exact do_move rfl; exact rfl
  refine seq_J [(0, I n), (1, .slice (some ⟨b, o, none⟩) l.length c), (6, I i), (7, .pointer (some ⟨nb h 0, 0, none⟩)), (77, .bool (walkB l[i]))] (ds := []) (h := ext h lo [some (.cells (mt l[i]) 0 false false)]) ?_ ?_
  · refine seq_gsplit rfl rfl (fun u1 => ?_) (fun u1 => ?_)
    · have u1 : (!byteL l[i].kind.data.toList kPlayed.data.toList) = true := u1
      rw [bytes_eq] at u1
      have u1 : decide (l[i].kind = kPlayed) = false := by simpa using u1
      apply seq_guard (hd := rfl) (hl := rfl); exact do_fieldAddr rfl rfl; exact rfl
      apply seq_guard (hd := rfl) (hl := rfl); exact do_load rfl (by exact ext_get_new rfl) rfl (by exact rfl); exact rfl
      apply seq_guard (hd := rfl) (hl := rfl); exact do_binInt rfl rfl rfl trivial; exact rfl
      apply seq_guard (hd := rfl) (hl := rfl); exact do_move rfl; exact rfl
      refine seq_gsplit rfl rfl (fun u2 => ?_) (fun u2 => ?_)
      · have u2 : (l[i].fr != 0) = true := u2
        have e : walkB l[i] = true := by simp only [walkB, u1, u2, Bool.not_false, Bool.true_or, Bool.true_and]
        rw [e]
        apply seq_passed (hd := rfl) (hl := rfl) (hb := rfl); exact rfl
        apply seq_passed (hd := rfl) (hl := rfl) (hb := rfl); exact rfl
        apply seq_passed (hd := rfl) (hl := rfl) (hb := rfl); exact rfl
        apply seq_guard (hd := rfl) (hl := rfl); exact do_pick_t rfl rfl; exact rfl
        apply seq_plain; exact do_pick_t rfl rfl; exact rfl
        apply seq_nil
        exact jp_of (by repeat (first | exact sub_nil | apply sub_cons rfl))
      · have u2 : (l[i].fr != 0) = false := u2
        have e : walkB l[i] = (l[i].ag != 0) := by simp only [walkB, u1, u2, Bool.not_false, Bool.false_or, Bool.true_and]
        rw [e]
        apply seq_guard (hd := rfl) (hl := rfl); exact do_fieldAddr rfl rfl; exact rfl
        apply seq_guard (hd := rfl) (hl := rfl); exact do_load rfl (by exact ext_get_new rfl) rfl (by exact rfl); exact rfl
        apply seq_guard (hd := rfl) (hl := rfl); exact do_binInt rfl rfl rfl trivial; exact rfl
        apply seq_guard (hd := rfl) (hl := rfl); exact do_pick_f rfl rfl; exact rfl
        apply seq_plain; exact do_pick_t rfl rfl; exact rfl
        apply seq_nil
        exact jp_of (by repeat (first | exact sub_nil | apply sub_cons rfl))
    · have u1 : (!byteL l[i].kind.data.toList kPlayed.data.toList) = false := u1
      rw [bytes_eq] at u1
      have u1 : decide (l[i].kind = kPlayed) = true := by simpa using u1
      have e : walkB l[i] = false := by simp only [walkB, u1, Bool.not_true, Bool.false_and]
      rw [e]
      apply seq_passed (hd := rfl) (hl := rfl) (hb := rfl); exact rfl
      apply seq_passed (hd := rfl) (hl := rfl) (hb := rfl); exact rfl
      apply seq_passed (hd := rfl) (hl := rfl) (hb := rfl); exact rfl
      apply seq_passed (hd := rfl) (hl := rfl) (hb := rfl); exact rfl
      apply seq_passedU (hd := rfl) (hl := rfl); exact rfl
      apply seq_passedU (hd := rfl) (hl := rfl); exact rfl
      apply seq_passedU (hd := rfl) (hl := rfl); exact rfl
      apply seq_passed (hd := rfl) (hl := rfl) (hb := rfl); exact rfl
      apply seq_plain; exact do_pick_f rfl rfl; exact rfl
      apply seq_nil
      exact jp_of (by repeat (first | exact sub_nil | apply sub_cons rfl))
  refine ct_cond rfl (fun d6 => ?_) (fun d6 => ?_)
  · apply ct_seq
    apply ct_region
    apply seq_plain; exact do_assign rfl; exact rfl
    apply seq_nil
    apply ct_ret
    refine fin_flatB hc hc' hE rfl rfl ⟨?_, rfl⟩
    rw [bad _ (mErr5 d2 d3 d4 d5 d6) (by decide)]; rfl
  apply ct_skip
  apply ct_seq
  apply ct_region
  apply seq_plain; exact do_assign rfl; exact rfl
  apply seq_nil
  apply ct_block
  apply ct_loop
  refine lt_up (fun j => [(0, I n), (1, .slice (some ⟨b, o, none⟩) l.length c), (6, I i), (7, .pointer (some ⟨nb h 0, 0, none⟩)), (8, I j)]) (fun j => ∀ k (hk : k < l.length), k < j → sameM l[i] l[k] = false) i (fun j hj hJ4 ih4 => ?_) 0 (by omega) (by intros; omega) (by repeat (first | exact sub_nil | apply sub_cons rfl))
  apply ct_seq
  apply ct_seq
  apply ct_region
  apply seq_plain; exact do_move rfl; exact rfl
  apply seq_plain; exact do_move rfl; exact rfl
  apply seq_plain; exact do_binInt rfl rfl rfl trivial; exact rfl
  apply seq_nil
  refine ct_cond rfl (fun k1 => ?_) (fun k1 => ?_)
  · simp only [decide_eq_true_eq, Int.ofNat_lt] at k1
    have hjl : j < l.length := by omega
    apply ct_skip
    apply ct_seq
    apply ct_block
    apply ct_seq
    apply ct_draw (by assumption); decide +kernel
    apply sd_plain (hfree := rfl); intro _; exact do_move rfl; exact rfl
    apply sd_plain (hfree := rfl); intro _; exact do_move rfl; exact rfl
    apply sd_plain (hfree := rfl); intro _; exact do_indexAddrS rfl rfl rfl (by exact idx_nat (by omega)); exact rfl
    apply sd_plain (hfree := rfl); intro _; exact do_fieldAddr rfl rfl; exact rfl
    apply sd_look (hfree := rfl); exact do_load rfl (by exact ext_get_old (by assumption) (by assumption)) rfl (by exact pt_sl1 (by assumption) (by omega) (Nat.le_of_ble_eq_true rfl) rfl); exact rfl
    apply sd_plain (hfree := rfl); intro _; exact do_fieldAddr rfl rfl; exact rfl
    apply sd_look (hfree := rfl); exact do_load rfl (by exact ext_get_new rfl) rfl (by exact rfl); exact rfl
    apply sd_plain (hfree := rfl); intro _; exact do_binInt rfl rfl rfl trivial; exact rfl
    apply sd_plain (hfree := rfl); intro _; exact do_move rfl; exact rfl
    refine sd_J [(0, I n), (1, .slice (some ⟨b, o, none⟩) l.length c), (6, I i), (7, .pointer (some ⟨nb h 0, 0, none⟩)), (8, I j), (100, .bool (sameM l[i] l[j]))] (h := ext h lo [some (.cells (mt l[i]) 0 false false)]) ?_ ?_
    · refine sd_gsplit rfl rfl (fun u1 => ?_) (fun u1 => ?_)
      · have u1 : (l[j].home == l[i].home) = true := u1
        have e : sameM l[i] l[j] = (l[j].away == l[i].away) := by simp only [sameM, u1, Bool.true_and]
        rw [e]
        apply sd_guard (hfree := rfl) (hg := rfl) (hl := rfl); intro _; exact do_move rfl; exact rfl
        apply sd_guard (hfree := rfl) (hg := rfl) (hl := rfl); intro _; exact do_move rfl; exact rfl
        apply sd_guard (hfree := rfl) (hg := rfl) (hl := rfl); intro _; exact do_indexAddrS rfl rfl rfl (by exact idx_nat (by omega)); exact rfl
        apply sd_guard (hfree := rfl) (hg := rfl) (hl := rfl); intro _; exact do_fieldAddr rfl rfl; exact rfl
        apply sd_guardL (hfree := rfl) (hg := rfl) (hl := rfl); exact do_load rfl (by exact ext_get_old (by assumption) (by assumption)) rfl (by exact pt_sl1 (by assumption) (by omega) (Nat.le_of_ble_eq_true rfl) rfl); exact rfl
        apply sd_guard (hfree := rfl) (hg := rfl) (hl := rfl); intro _; exact do_fieldAddr rfl rfl; exact rfl
        apply sd_guardL (hfree := rfl) (hg := rfl) (hl := rfl); exact do_load rfl (by exact ext_get_new rfl) rfl (by exact rfl); exact rfl
        apply sd_guard (hfree := rfl) (hg := rfl) (hl := rfl); intro _; exact do_binInt rfl rfl rfl trivial; exact rfl
        apply sd_plain (hfree := rfl); intro _; exact do_pick_t rfl rfl; exact rfl
        apply sd_nil
        exact jp_of (by repeat (first | exact sub_nil | apply sub_cons rfl))
      · have u1 : (l[j].home == l[i].home) = false := u1
        have e : sameM l[i] l[j] = false := by simp only [sameM, u1, Bool.false_and]
        rw [e]
        apply sd_passed (hg := rfl) (hl := rfl) (hb := rfl); exact rfl
        apply sd_passed (hg := rfl) (hl := rfl) (hb := rfl); exact rfl
        apply sd_passed (hg := rfl) (hl := rfl) (hb := rfl); exact rfl
        apply sd_passed (hg := rfl) (hl := rfl) (hb := rfl); exact rfl
        apply sd_passed (hg := rfl) (hl := rfl) (hb := rfl); exact rfl
        apply sd_passed (hg := rfl) (hl := rfl) (hb := rfl); exact rfl
        apply sd_passed (hg := rfl) (hl := rfl) (hb := rfl); exact rfl
        apply sd_passed (hg := rfl) (hl := rfl) (hb := rfl); exact rfl
        apply sd_plain (hfree := rfl); intro _; exact do_pick_f rfl rfl; exact rfl
        apply sd_nil
        exact jp_of (by repeat (first | exact sub_nil | apply sub_cons rfl))
    skip
    refine ct_cond rfl (fun d7 => ?_) (fun d7 => ?_)
    · apply ct_seq
      apply ct_region
      apply seq_plain; exact do_assign rfl; exact rfl
      apply seq_nil
      apply ct_ret
      refine fin_flatB hc hc' hE rfl rfl ⟨?_, rfl⟩
      rw [bad _ (mErr6 d2 d3 d4 d5 d6 (anyG_t hjl k1 d7)) (by decide)]; rfl
    · apply ct_skip
      apply ct_region
      apply seq_plain; exact do_move rfl; exact rfl
      apply seq_plain; exact do_succ rfl (by omega); exact rfl
      apply seq_plain; exact do_assign rfl; exact rfl
      apply seq_nil
      refine lt_sub (by repeat (first | exact sub_nil | apply sub_cons rfl)) (ih4 (j + 1) (by omega) (by omega) fun k hk hkj => ?_)
      rcases Nat.lt_or_ge k j with h | h
      · exact hJ4 k hk h
      · have : k = j := by omega
        subst this; exact d7
  · have k1 : j = i := by simp at k1; omega
    subst k1
    have d7 : (l.take j).any (sameM l[j]) = false := anyG_f fun k hk hki => hJ4 k hk hki
    have e := mErr0 (n := n) d2 d3 d4 d5 d6 d7
    rw [← errG_at (err := mErr n) h1] at e
    apply ct_exit
    apply exit_eq; exact rfl
    apply ct_region
    apply seq_plain; exact do_move rfl; exact rfl
    apply seq_plain; exact do_succ rfl (by omega); exact rfl
    apply seq_plain; exact do_assign rfl; exact rfl
    apply seq_nil
    refine lt_sub (by repeat (first | exact sub_nil | apply sub_cons rfl)) (ih (j + 1) _ _ _ hc' (.refl _) (by omega) (by omega) fun k hkj => ?_)
    rcases Nat.lt_or_ge k j with h | h
    · exact hJ k h
    · have : k = j := by omega
      subst this; exact e
end Go.Proofs.YtiggikjbknoohaaGreatDoor
