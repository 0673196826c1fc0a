/- LeagueMoves: the law's own walk. -/
import Derived.Test.YtiggikjbknoohaaGreatDoorMvL
noncomputable section
namespace Go.Proofs.YtiggikjbknoohaaGreatDoor
open Go Go.Den
set_option maxRecDepth 100000

/-- the names and where they are, up to a division -/
def whoL (F : Nat → List ByteArray) (i : Nat) : List (ByteArray × Int) := (List.range i).flatMap fun t => (F t).map fun s => (s, (t : Int))
def whoTo (F : Nat → List ByteArray) (i j : Nat) : List (ByteArray × Int) := whoL F i ++ ((F i).take j).map fun s => (s, (i : Int))
theorem who_next {F : Nat → List ByteArray} {i j : Nat} (h : j < (F i).length) : whoTo F i (j + 1) = whoTo F i j ++ [((F i)[j], (i : Int))] := by
  unfold whoTo
  rw [take_snoc h, List.map_append, List.append_assoc]; rfl
theorem who_zero {F : Nat → List ByteArray} {i : Nat} : whoTo F i 0 = whoL F i := by
  unfold whoTo; simp
theorem who_row {F : Nat → List ByteArray} {i : Nat} : whoTo F i (F i).length = whoL F (i + 1) := by
  unfold whoTo whoL
  rw [List.take_length, List.range_succ, List.flatMap_append]; simp
theorem who_fst {F : Nat → List ByteArray} {i : Nat} : (whoL F i).map (·.1) = (List.range i).flatMap F := by
  unfold whoL
  rw [List.map_flatMap]
  simp [Function.comp_def]
theorem who_new {F : Nat → List ByteArray} {N i j : Nat} (hnd : ((List.range N).flatMap F).Nodup) (hi : i < N) (hj : j < (F i).length) : ∀ x ∈ whoTo F i j, x.1 ≠ (F i)[j] := by
  have h1 : ((whoTo F i (j + 1)).map (·.1)).Nodup := by
    have h2 : ((whoL F (i + 1)).map (·.1)).Nodup := by
      rw [who_fst]
      have : List.Sublist ((List.range (i + 1)).flatMap F) ((List.range N).flatMap F) := by
        obtain ⟨m, rfl⟩ : ∃ m, N = i + 1 + m := ⟨N - (i + 1), by omega⟩
        have e : List.range (i + 1 + m) = List.range (i + 1) ++ (List.range m).map (fun x => i + 1 + x) := List.range_add
        rw [e, List.flatMap_append]
        exact List.sublist_append_left _ _
      exact this.nodup hnd
    rw [← who_row] at h2
    have : List.Sublist ((whoTo F i (j + 1)).map (·.1)) ((whoTo F i (F i).length).map (·.1)) := by
      refine List.Sublist.map _ ?_
      unfold whoTo
      rw [List.take_length]
      exact List.Sublist.append (List.Sublist.refl _) (List.Sublist.map _ (List.take_sublist _ _))
    exact this.nodup h2
  rw [who_next hj, List.map_append, List.nodup_append] at h1
  intro x hx e
  exact h1.2.2 x.1 (List.mem_map.2 ⟨x, hx, rfl⟩) ((F i)[j]) (by simp) e
theorem who_mem {F : Nat → List ByteArray} {N t : Nat} {s : ByteArray} (ht : t < N) (h : s ∈ F t) : (s, (t : Int)) ∈ whoL F N := by
  unfold whoL
  exact List.mem_flatMap.2 ⟨t, List.mem_range.2 ht, List.mem_map.2 ⟨s, h, rfl⟩⟩
theorem who_len {F G : Nat → List ByteArray} {N : Nat} (h : ∀ i, i < N → (F i).length = (G i).length) : (whoL F N).length = (whoL G N).length := by
  unfold whoL
  induction N with
  | zero => rfl
  | succ m ih =>
    rw [List.range_succ, List.flatMap_append, List.flatMap_append, List.length_append, List.length_append, ih fun i hi => h i (by omega)]
    simp [h m (by omega)]
theorem move_zero {d : List Sz} : moveE (dl d) 0 = 0 := by
  unfold moveE
  have h : ((dl d).any fun l => decide ((l.length : Int) < 2 * 0)) = false := by
    rw [List.any_eq_false]
    intro x _
    simp
  rw [h]; rfl
theorem zeroInt : zeroOf Tryz.prog 3 = some (.int .i64 0) := rfl

set_option maxHeartbeats 16000000 in
theorem law8 {H : AHeap} {q : Option Addr} {c : Nat} {d : List Sz} {k : Int} (haw : ∀ h, Ext H h → Ret Tryz.prog 17 [] h (.bool true) h) (hd : SzW H q d) :
    CallT Tryz.prog 8 [.slice q d.length c, I k] H (fun v _ => v = .bool true) := by
  refine fn_start Tryz.func8 rfl rfl rfl fun hc => ?_
  apply ct_seq
  apply ct_region
  apply seq_plain; exact do_assign rfl; exact rfl
  apply seq_nil
  apply ct_seq
  apply ct_seq
  apply ct_region
  apply seq_call (ht := rfl); exact haw _ (ext_Ext hc); exact rfl
  apply seq_plain; exact do_unOp rfl rfl; exact rfl
  apply seq_plain; exact do_move rfl; exact rfl
  apply seq_guard (hd := rfl) (hl := rfl); exact do_move rfl; exact rfl
  apply seq_guard (hd := rfl) (hl := rfl); exact do_lenS rfl rfl rfl; exact rfl
  apply seq_guard (hd := rfl) (hl := rfl); exact do_binInt rfl rfl rfl trivial; exact rfl
  apply seq_plain; exact do_pick_f rfl rfl; exact rfl
  apply seq_plain; exact do_move rfl; exact rfl
  obtain ⟨T, hT⟩ : ∃ T : Bool, T = (decide ((d.length : Int) > 6) || !(shortD d) || (divsE (dl d) != 0) || (moveE (dl d) k != 0)) := ⟨_, rfl⟩
  refine seq_J [(0, .slice q d.length c), (1, I k), (41, .bool T)] (ds := []) (h := ext H H.fresh []) ?_ ?_
  · refine seq_gsplit rfl rfl (fun u1 => ?_) (fun u1 => ?_)
    · have u1 : decide ((d.length : Int) > 6) = true := u1
      have e : T = true := by rw [hT, u1]; rfl
      rw [e]
      apply seq_passed (hd := rfl) (hl := rfl) (hb := rfl); exact rfl
      apply seq_passed (hd := rfl) (hl := rfl) (hb := rfl); exact rfl
      apply seq_passed (hd := rfl) (hl := rfl) (hb := rfl); exact rfl
      apply seq_plain; exact do_pick_t rfl rfl; exact rfl
      apply seq_plain; exact do_move rfl; exact rfl
      apply seq_passed (hd := rfl) (hl := rfl) (hb := rfl); exact rfl
      apply seq_passed (hd := rfl) (hl := rfl) (hb := rfl); exact rfl
      apply seq_passed (hd := rfl) (hl := rfl) (hb := rfl); exact rfl
      apply seq_plain; exact do_pick_t rfl rfl; exact rfl
      apply seq_plain; exact do_move rfl; exact rfl
      apply seq_passed (hd := rfl) (hl := rfl) (hb := rfl); exact rfl
      apply seq_passed (hd := rfl) (hl := rfl) (hb := rfl); exact rfl
      apply seq_passed (hd := rfl) (hl := rfl) (hb := rfl); exact rfl
      apply seq_passed (hd := rfl) (hl := rfl) (hb := rfl); exact rfl
      apply seq_plain; exact do_pick_t rfl rfl; exact rfl
      apply seq_nil
      exact jp_of (by repeat (first | exact sub_nil | apply sub_cons rfl))
    · have u1 : decide ((d.length : Int) > 6) = false := u1
      apply seq_guard (hd := rfl) (hl := rfl); exact do_move rfl; exact rfl
      apply seq_gcall (hg := rfl) (hl := rfl) (ht := rfl)
      exact shortDivisions_c (hd.to.ext (ext_Ext hc))
      exact rfl
      apply seq_guard (hd := rfl) (hl := rfl); exact do_unOp rfl rfl; exact rfl
      apply seq_plain; exact do_pick_f rfl rfl; exact rfl
      apply seq_plain; exact do_move rfl; exact rfl
      refine seq_gsplit rfl rfl (fun u2 => ?_) (fun u2 => ?_)
      · have e : T = true := by
          have u2 : (!shortD d) = true := u2
          rw [hT, u1, u2]; rfl
        rw [e]
        apply seq_passed (hd := rfl) (hl := rfl) (hb := rfl); exact rfl
        apply seq_passed (hd := rfl) (hl := rfl) (hb := rfl); exact rfl
        apply seq_passed (hd := rfl) (hl := rfl) (hb := rfl); exact rfl
        apply seq_plain; exact do_pick_t rfl rfl; exact rfl
        apply seq_plain; exact do_move rfl; exact rfl
        apply seq_passed (hd := rfl) (hl := rfl) (hb := rfl); exact rfl
        apply seq_passed (hd := rfl) (hl := rfl) (hb := rfl); exact rfl
        apply seq_passed (hd := rfl) (hl := rfl) (hb := rfl); exact rfl
        apply seq_passed (hd := rfl) (hl := rfl) (hb := rfl); exact rfl
        apply seq_plain; exact do_pick_t rfl rfl; exact rfl
        apply seq_nil
        exact jp_of (by repeat (first | exact sub_nil | apply sub_cons rfl))
      · have u2 : shortD d = true := by simpa using u2
        apply seq_guard (hd := rfl) (hl := rfl); exact do_move rfl; exact rfl
        apply seq_gcall (hg := rfl) (hl := rfl) (ht := rfl)
        exact refCheckDivisions_c (hd.ext (ext_Ext hc)) u2
        exact rfl
        apply seq_guard (hd := rfl) (hl := rfl); exact do_binInt rfl rfl rfl trivial; exact rfl
        apply seq_plain; exact do_pick_f rfl rfl; exact rfl
        apply seq_plain; exact do_move rfl; exact rfl
        refine seq_gsplit rfl rfl (fun u3 => ?_) (fun u3 => ?_)
        · have e : T = true := by
            have u3 : (divsE (dl d) != 0) = true := u3
            rw [hT, u1, u2, u3]; rfl
          rw [e]
          apply seq_passed (hd := rfl) (hl := rfl) (hb := rfl); exact rfl
          apply seq_passed (hd := rfl) (hl := rfl) (hb := rfl); exact rfl
          apply seq_passed (hd := rfl) (hl := rfl) (hb := rfl); exact rfl
          apply seq_passed (hd := rfl) (hl := rfl) (hb := rfl); exact rfl
          apply seq_plain; exact do_pick_t rfl rfl; exact rfl
          apply seq_nil
          exact jp_of (by repeat (first | exact sub_nil | apply sub_cons rfl))
        · have u3 : (divsE (dl d) != 0) = false := u3
          have e : T = (moveE (dl d) k != 0) := by rw [hT, u1, u2, u3]; rfl
          apply seq_guard (hd := rfl) (hl := rfl); exact do_move rfl; exact rfl
          apply seq_guard (hd := rfl) (hl := rfl); exact do_move rfl; exact rfl
          apply seq_gcall (hg := rfl) (hl := rfl) (ht := rfl)
          exact refCheckMove_c (hd.ext (ext_Ext hc)) (by simp at u1; omega)
          exact rfl
          rw [e]
          apply seq_guard (hd := rfl) (hl := rfl); exact do_binInt rfl rfl rfl trivial; exact rfl
          apply seq_plain; exact do_pick_f rfl rfl; exact rfl
          apply seq_nil
          exact jp_of (by repeat (first | exact sub_nil | apply sub_cons rfl))
  skip
  refine ct_cond rfl (fun h1 => ?_) (fun h1 => ?_)
  · apply ct_seq
    apply ct_region
    apply seq_call (ht := rfl); exact haw _ (ext_Ext hc); exact rfl
    apply seq_plain; exact do_assign rfl; exact rfl
    apply seq_nil
    apply ct_ret
    exact fin_flat hc rfl rfl rfl
  rw [hT] at h1
  simp only [Bool.or_eq_false_iff] at h1
  obtain ⟨⟨⟨n6, hs⟩, hdz⟩, hmz⟩ := h1
  have n6 : d.length ≤ 6 := by simp at n6; omega
  have hs : shortD d = true := by simpa using hs
  have hdz : divsE (dl d) = 0 := by simpa using hdz
  have hmz : moveE (dl d) k = 0 := by simpa using hmz
  clear hT
  obtain ⟨n, rfl, hg⟩ := good_d hdz hmz
  have hk24 := hg.k24
  have hel : (dl d).length = d.length := List.length_map _
  have h2n : ∀ i, i < (dl d).length → 2 * n ≤ ((dl d)[i]?.getD []).length := fun i hi => by
    rw [dl_get (by omega)]; exact (hg.row _ (List.getElem_mem (by omega))).2
  apply ct_skip
  apply ct_seq
  apply ct_region
  apply seq_plain; exact do_move rfl; exact rfl
  apply seq_plain; exact do_move rfl; exact rfl
  refine seq_callQ rfl (promote_c (hd.ext (ext_Ext hc)) hs) rfl fun v h1 hR => ?_
  rcases hR with ⟨hne, _, _⟩ | ⟨_, n1, p1, cp1, out1, hn1, rfl, hso1, hout1, hE1, hc1, hl1, _⟩
  · exact absurd (by rw [proE_ok hdz]; exact hmz) hne
  obtain rfl : n = n1 := by omega
  refine seqL_to sub_refl (hq_base hl1) (by simp) ?_
  have hd1 : SzW h1 q d := hd.ext ((ext_Ext hc).trans hE1)
  apply seq_plain; exact do_move rfl; exact rfl
  apply seq_plain; exact do_extract rfl rfl; exact rfl
  apply seq_plain; exact do_extract rfl rfl; exact rfl
  apply seq_plain; exact do_assign rfl; exact rfl
  apply seq_plain; exact do_assign rfl; exact rfl
  apply seq_nil
  apply ct_seq
  apply ct_region
  apply seq_plain; exact do_move rfl; exact rfl
  refine seq_callQ rfl (promote_c (k := 0) (hd1.ext (ext_Ext hc1)) hs) rfl fun v h2 hR => ?_
  rcases hR with ⟨hne, _, _⟩ | ⟨_, n2, p2, cp2, out2, hn2, rfl, hso2, hout2, hE2, hc2, hl2, _⟩
  · exact absurd (by rw [proE_ok hdz]; exact move_zero) hne
  obtain rfl : n2 = 0 := by omega
  refine seqL_to sub_refl (hq_base hl2) (by simp) ?_
  have hd2 : SzW h2 q d := hd1.ext ((ext_Ext hc1).trans hE2)
  have hso1 : SzAt h2 p1 out1 := hso1.ext ((ext_Ext hc1).trans hE2)
  have ho1 : out1.length = d.length := by have := congrArg List.length hout1; simpa using this
  have ho2 : dl out2 = dl d := by
    rw [hout2]
    refine List.ext_getElem (by simp) fun i a b => ?_
    rw [List.getElem_map, List.getElem_range, pro_zero]
    simp at b
    rw [dl_get b, List.getElem_map]
  have hol2 : out2.length = d.length := by have := congrArg List.length ho2; simpa using this
  apply seq_plain; exact do_move rfl; exact rfl
  apply seq_plain; exact do_extract rfl rfl; exact rfl
  apply seq_plain; exact do_extract rfl rfl; exact rfl
  apply seq_plain; exact do_assign rfl; exact rfl
  apply seq_plain; exact do_assign rfl; exact rfl
  apply seq_nil
  apply ct_seq
  apply ct_seq
  apply ct_region
  apply seq_plain; exact do_move rfl; exact rfl
  apply seq_plain; exact do_move rfl; exact rfl
  apply seq_plain; exact do_add rfl rfl (by omega); exact rfl
  apply seq_plain; exact do_binInt rfl rfl rfl trivial; exact rfl
  apply seq_plain; exact do_move rfl; exact rfl
  apply seq_guard (hd := rfl) (hl := rfl); exact do_move rfl; exact rfl
  apply seq_guard (hd := rfl) (hl := rfl); exact do_move rfl; exact rfl
  apply seq_gcall (hg := rfl) (hl := rfl) (ht := rfl)
  exact sameDivisions_c (d := out2) (e := d) (hso2.ext (ext_Ext hc2)) (hd2.to.ext (ext_Ext hc2)) (by omega) (fun x hx => by
    have : x.l ∈ dl out2 := List.mem_map.2 ⟨x, hx, rfl⟩
    rw [ho2] at this
    obtain ⟨y, hy, e⟩ := List.mem_map.1 this
    have := (hg.row y hy).1
    rw [← e]; omega)
  exact rfl
  rw [show decide (dl out2 = dl d) = true from decide_eq_true ho2]
  apply seq_guard (hd := rfl) (hl := rfl); exact do_unOp rfl rfl; exact rfl
  apply seq_plain; exact do_pick_f rfl rfl; exact rfl
  apply seq_plain; exact do_move rfl; exact rfl
  apply seq_guard (hd := rfl) (hl := rfl); exact do_move rfl; exact rfl
  apply seq_guard (hd := rfl) (hl := rfl); exact do_lenS rfl rfl rfl; exact rfl
  apply seq_guard (hd := rfl) (hl := rfl); exact do_move rfl; exact rfl
  apply seq_guard (hd := rfl) (hl := rfl); exact do_lenS rfl rfl rfl; exact rfl
  apply seq_guard (hd := rfl) (hl := rfl); exact do_binInt rfl rfl rfl trivial; exact rfl
  apply seq_plain; exact do_pick_f rfl rfl; exact rfl
  apply seq_nil
  refine ct_cond_f rfl (by simp [ho1]) ?_
  apply ct_skip
  apply ct_seq
  apply ct_region
  apply seq_newM; exact do_makeMap0; exact rfl
  apply seq_newM; exact do_makeMap0; exact rfl
  apply seq_plain; exact do_assign rfl; exact rfl
  apply seq_plain; exact do_assign rfl; exact rfl
  apply seq_nil
  apply ct_seq
  apply ct_seq
  apply ct_region
  apply seq_plain; exact do_move rfl; exact rfl
  apply seq_plain; exact do_lenS rfl rfl rfl; exact rfl
  apply seq_plain; exact do_move rfl; exact rfl
  apply seq_nil
  apply ct_block
  apply ct_loop
  obtain ⟨F, hF⟩ : ∃ F : Nat → List ByteArray, F = fun t => (dl d)[t]?.getD [] := ⟨_, rfl⟩
  obtain ⟨G, hG⟩ : ∃ G : Nat → List ByteArray, G = proL (dl d) n := ⟨_, rfl⟩
  have hFi : ∀ i (h : i < d.length), F i = d[i].l := fun i h => by rw [hF]; exact dl_get h
  have hGi : ∀ i (h : i < out1.length), G i = out1[i].l := fun i h => by
    have : (dl out1)[i]? = some (proL (dl d) n i) := by rw [hout1, List.getElem?_map, List.getElem?_range (by omega)]; rfl
    rw [hG]
    simpa [h] using this.symm
  have hndF : ((List.range d.length).flatMap F).Nodup := by
    have := divs_nodup hdz
    rw [← flat_get, hel] at this
    rw [hF]; exact this
  have hndG : ((List.range d.length).flatMap G).Nodup := by
    have h3 := pro_perm h2n
    rw [hel] at h3
    rw [hG]
    exact h3.nodup_iff.2 (divs_nodup hdz)
  have hFG : ∀ i, i < d.length → (G i).length = (F i).length := fun i hi => by
    rw [hF, hG]
    exact pro_len2 h2n (by omega)
  have hmap0 : (some (numM strV (whoL F 0)) : Option ABlk) = some (.map [] 0 false) := rfl
  refine lt_meas (α := Nat × List (Option ABlk)) (fun a => [(0, .slice q d.length c), (1, I n), (5, .slice p1 out1.length cp1), (9, .map (some (nb h2 0))), (10, .map (some (nb h2 1))), (74, I d.length), (75, I a.1)]) (fun a => ext h2 h2.low (some (numM strV (whoL F a.1)) :: some (numM strV (whoL G a.1)) :: a.2)) (fun a => a.1 ≤ d.length) (fun a => d.length - a.1) (fun a hi ih => ?_) (0, []) (by simp) (by repeat (first | exact sub_nil | apply sub_cons rfl)) (.refl _)
  obtain ⟨i, R⟩ := a
  simp only at hi ih ⊢
  have ih' := fun i' R' a1 a2 => ih (i', R') a1 a2
  simp only at ih'
  clear ih
  apply ct_seq
  apply ct_region
  apply seq_plain; exact do_binInt rfl rfl rfl trivial; exact rfl
  apply seq_nil
  apply ct_seq
  refine ct_cond rfl (fun h1 => ?_) (fun h1 => ?_)
  · simp only [decide_eq_true_eq, Int.ofNat_lt] at h1
    have h1o : i < out1.length := by omega
    obtain ⟨b, o, cs, z, s, ro, hq, hgb, hw⟩ := hd2.at_.out (by intro e; rw [e] at h1; simp at h1)
    obtain ⟨b', o', cs', z', s', ro', hq', hgb', hw'⟩ := hso1.at_.out (fun e => by have h5 := congrArg List.length e; simp only [List.length_nil] at h5; omega)
    have hx := (hd2.each _ (List.getElem_mem h1)).slAt
    have hy := hso1.each _ (List.getElem_mem h1o)
    have hrow := (hg.row _ (List.getElem_mem h1)).1
    have eF := hFi i h1
    have eG := hGi i h1o
    have eL := hFG i h1
    rw [eF, eG] at eL
    rw [hq, hq'] at ih' ⊢
    apply ct_skip
    apply ct_seq
    apply ct_block
    apply ct_seq
    apply ct_region
    apply seq_plain; exact do_move rfl; exact rfl
    apply seq_plain; exact do_assign rfl; exact rfl
    apply seq_nil
    apply ct_seq
    apply ct_seq
    apply ct_draw (by assumption); decide +kernel
    apply sd_plain (hfree := rfl); intro _; exact do_move rfl; exact rfl
    apply sd_plain (hfree := rfl); intro _; exact do_move rfl; exact rfl
    apply sd_plain (hfree := rfl); intro _; exact do_indexAddrS rfl rfl rfl (by exact idx_nat (by omega)); exact rfl
    apply sd_look (hfree := rfl); exact do_load rfl (by exact ext_get_old (by assumption) (by assumption)) rfl (by exact sz_get (by assumption) (by omega)); exact rfl
    apply sd_look (hfree := rfl); exact do_lenS rfl rfl rfl; exact rfl
    apply sd_plain (hfree := rfl); intro _; exact do_move rfl; exact rfl
    apply sd_plain (hfree := rfl); intro _; exact do_move rfl; exact rfl
    apply sd_plain (hfree := rfl); intro _; exact do_indexAddrS rfl rfl rfl (by exact idx_nat (by omega)); exact rfl
    apply sd_look (hfree := rfl); exact do_load rfl (by exact ext_get_old (by assumption) (by assumption)) rfl (by exact sz_get (by assumption) (by omega)); exact rfl
    apply sd_look (hfree := rfl); exact do_lenS rfl rfl rfl; exact rfl
    apply sd_plain (hfree := rfl); intro _; exact do_binInt rfl rfl rfl trivial; exact rfl
    apply sd_nil
    refine ct_cond_f rfl (by simp [eL]) ?_
    apply ct_skip
    apply ct_seq
    apply ct_region
    apply seq_plain; exact do_move rfl; exact rfl
    apply seq_plain; exact do_move rfl; exact rfl
    apply seq_plain; exact do_indexAddrS rfl rfl rfl (by exact idx_nat (by omega)); exact rfl
    apply seq_plain; exact do_load rfl (by exact ext_get_old (by assumption) (by assumption)) rfl (by exact sz_get (by assumption) (by omega)); exact rfl
    apply seq_plain; exact do_lenS rfl rfl rfl; exact rfl
    apply seq_plain; exact do_move rfl; exact rfl
    apply seq_nil
    apply ct_block
    apply ct_loop
    refine lt_meas (α := Nat × List (Option ABlk)) (fun a => [(0, .slice (some ⟨b, o, none⟩) d.length c), (1, I n), (5, .slice (some ⟨b', o', none⟩) out1.length cp1), (9, .map (some (nb h2 0))), (10, .map (some (nb h2 1))), (11, I i), (74, I d.length), (75, I i), (93, I d[i].l.length), (94, I a.1)]) (fun a => ext h2 h2.low (some (numM strV (whoTo F i a.1)) :: some (numM strV (whoTo G i a.1)) :: a.2)) (fun a => a.1 ≤ d[i].l.length) (fun a => d[i].l.length - a.1) (fun a hi ih => ?_) (0, R) (by simp) (by repeat (first | exact sub_nil | apply sub_cons rfl)) (by simp only [who_zero, List.map_nil, List.append_nil]; exact .refl _)
    clear R
    obtain ⟨j, R⟩ := a
    simp only at hi ih ⊢
    have ih2 := fun i' R' a1 a2 => ih (i', R') a1 a2
    simp only at ih2
    clear ih
    apply ct_seq
    apply ct_region
    apply seq_plain; exact do_binInt rfl rfl rfl trivial; exact rfl
    apply seq_nil
    apply ct_seq
    refine ct_cond rfl (fun h4 => ?_) (fun h4 => ?_)
    · simp only [decide_eq_true_eq, Int.ofNat_lt] at h4
      have h4o : j < out1[i].l.length := by omega
      obtain ⟨b2, o2, cs2, z2, s2, ro2, hp2, hg2, hw2⟩ := hx.out (by intro e; rw [e] at h4; simp at h4)
      obtain ⟨b3, o3, cs3, z3, s3, ro3, hp3, hg3, hw3⟩ := hy.out (fun e => by have h5 := congrArg List.length e; simp only [List.length_nil] at h5; omega)
      have nF := who_new hndF h1 (j := j) (by rw [eF]; exact h4)
      have nG := who_new hndG h1 (j := j) (by rw [eG]; exact h4o)
      have xF := who_next (F := F) (i := i) (j := j) (by rw [eF]; exact h4)
      have xG := who_next (F := G) (i := i) (j := j) (by rw [eG]; exact h4o)
      simp only [eF] at nF xF
      simp only [eG] at nG xG
      apply ct_skip
      apply ct_seq
      apply ct_block
      apply ct_seq
      apply ct_region
      apply seq_plain; exact do_move rfl; exact rfl
      apply seq_plain; exact do_assign rfl; exact rfl
      apply seq_nil
      refine ct_drawF (k := 0) hc2 (by simp) (by decide +kernel) ?_
      apply sf_free (hfree := rfl) (hnl := rfl); intro _; exact do_move rfl; exact rfl
      apply sf_free (hfree := rfl) (hnl := rfl); intro _; exact do_move rfl; exact rfl
      apply sf_free (hfree := rfl) (hnl := rfl); intro _; exact do_move rfl; exact rfl
      apply sf_free (hfree := rfl) (hnl := rfl); intro _; exact do_indexAddrS rfl rfl rfl (by exact idx_nat (by omega)); exact rfl
      apply sf_off (hc := by assumption) (hfree := rfl) (hLx := rfl) (hnl := rfl); exact do_load rfl (by exact ext_get_old (by assumption) (by assumption)) rfl (by exact sz_get (by assumption) (by omega)); exact rfl
      apply sf_free (hfree := rfl) (hnl := rfl); intro _; exact do_move rfl; exact rfl
      rw [hp2]
      apply sf_free (hfree := rfl) (hnl := rfl); intro _; exact do_indexAddrS rfl rfl rfl (by exact idx_nat (by omega)); exact rfl
      apply sf_off (hc := by assumption) (hfree := rfl) (hLx := rfl) (hnl := rfl); exact do_load rfl (by exact ext_get_old (by assumption) (by assumption)) rfl (by exact pt_sl0 (by assumption) (by omega)); exact rfl
      apply sf_free (hfree := rfl) (hnl := rfl); intro _; exact do_move rfl; exact rfl
      apply sf_free (hfree := rfl) (hnl := rfl); intro _; exact do_move rfl; exact rfl
      apply sf_free (hfree := rfl) (hnl := rfl); intro _; exact do_move rfl; exact rfl
      apply sf_free (hfree := rfl) (hnl := rfl); intro _; exact do_indexAddrS rfl rfl rfl (by exact idx_nat (by omega)); exact rfl
      apply sf_off (hc := by assumption) (hfree := rfl) (hLx := rfl) (hnl := rfl); exact do_load rfl (by exact ext_get_old (by assumption) (by assumption)) rfl (by exact sz_get (by assumption) (by omega)); exact rfl
      apply sf_free (hfree := rfl) (hnl := rfl); intro _; exact do_move rfl; exact rfl
      rw [hp3]
      apply sf_free (hfree := rfl) (hnl := rfl); intro _; exact do_indexAddrS rfl rfl rfl (by exact idx_nat (by omega)); exact rfl
      apply sf_off (hc := by assumption) (hfree := rfl) (hLx := rfl) (hnl := rfl); exact do_load rfl (by exact ext_get_old (by assumption) (by assumption)) rfl (by exact pt_sl0 (by assumption) (by omega)); exact rfl
      apply sf_free (hfree := rfl) (hnl := rfl); intro _; exact do_move rfl; exact rfl
      apply sf_free (hfree := rfl) (hnl := rfl); intro _; exact do_move rfl; exact rfl
      apply sf_turnV (hc := hc2) (hfree := rfl) (hok := by decide +kernel) (htj := rfl) (hnl := rfl) (hLk := rfl)
      exact do_numNew (f := strV) (a := d[i].l[j]) (ks := whoTo F i j) rfl rfl (ext_get_new rfl) rfl zeroInt keyStr (nb_own _) nF
      exact rfl
      apply sf_free (hfree := rfl) (hnl := rfl); intro _; exact do_extract rfl rfl; exact rfl
      apply sf_turn0 (hc := hc2) (hfree := rfl) (hok := by decide +kernel) (htj := by decide +kernel) (hnl := rfl) (hLk := rfl)
      exact do_numStore (f := strV) (a := d[i].l[j]) (ks := whoTo F i j) (n := i) rfl rfl rfl (ext_get_new rfl) (nb_own _)
      apply sf_serV (k' := 1) (hc := hc2) (hfree := rfl) (hser := by decide +kernel) (hlt := by simp)
      exact do_numNew (f := strV) (a := out1[i].l[j]) (ks := whoTo G i j) rfl rfl (ext_get_new rfl) rfl zeroInt keyStr (nb_own _) nG
      exact rfl
      apply sd_plain (hfree := rfl); intro _; exact do_extract rfl rfl; exact rfl
      apply sd_put (k := 1) (hfree := rfl) (hser := by decide +kernel) (hc := hc2) (hlt := by simp)
      exact do_numStore (f := strV) (a := out1[i].l[j]) (ks := whoTo G i j) (n := i) rfl rfl rfl (ext_get_new rfl) (nb_own _)
      rw [← xF, ← xG]
      apply sd_nil
      apply ct_region
      apply seq_plain; exact do_succ rfl (by omega); exact rfl
      apply seq_plain; exact do_move rfl; exact rfl
      apply seq_nil
      have ih := fun R' => ih2 (j + 1) R' (by omega) (by omega)
      exact lt_to (by repeat (first | exact sub_nil | apply sub_cons rfl)) (.refl _) (ih _)
    · simp only [decide_eq_false_iff_not, Int.ofNat_lt] at h4
      have hjl : j = d[i].l.length := by omega
      have rF := who_row (F := F) (i := i)
      have rG := who_row (F := G) (i := i)
      rw [eF, ← hjl] at rF
      rw [eG, eL, ← hjl] at rG
      rw [rF, rG]
      apply ct_exit
      apply exit_eq; exact rfl
      apply ct_region
      apply seq_plain; exact do_succ rfl (by omega); exact rfl
      apply seq_plain; exact do_move rfl; exact rfl
      apply seq_nil
      exact lt_to (by repeat (first | exact sub_nil | apply sub_cons rfl)) (.refl _) (ih' (i + 1) R (by omega) (by omega))
  · simp only [decide_eq_false_iff_not, Int.ofNat_lt] at h1
    obtain rfl : i = d.length := by omega
    clear ih'
    apply ct_exit
    apply exit_eq; exact rfl
    apply ct_seq
    apply ct_seq
    apply ct_region
    apply seq_plain; exact do_move rfl; exact rfl
    apply seq_plain; exact do_lenS rfl rfl rfl; exact rfl
    apply seq_plain; exact do_move rfl; exact rfl
    apply seq_nil
    apply ct_block
    apply ct_loop
    have hlenK : (whoL F d.length).length = (whoL G d.length).length := who_len fun i hi => (hFG i hi).symm
    have hndK : ((whoL G d.length).map (·.1)).Nodup := by rw [who_fst]; exact hndG
    have hwhere : ∀ i (hi : i < d.length) j (hj : j < d[i].l.length) (t : Nat), (t = if i + 1 < d.length ∧ d[i].l.length - n ≤ j then i + 1 else if 0 < i ∧ j < n then i - 1 else i) → (d[i].l[j], (t : Int)) ∈ whoL G d.length := fun i hi j hj t ht => by
      have h3 := pro_mem (D := dl d) (n := n) (i := i) (j := j) (t := t) (by omega) (h2n i (by omega)) (by rw [dl_get hi]; exact hj) (by rw [hel, dl_get hi]; exact ht)
      simp only [dl_get hi] at h3
      refine who_mem ?_ (by rw [hG]; exact h3)
      rw [ht]
      split
      · omega
      · split <;> omega
    clear hi
    refine lt_meas (α := Nat × List (Option ABlk)) (fun a => [(0, .slice q d.length c), (1, I n), (9, .map (some (nb h2 0))), (10, .map (some (nb h2 1))), (122, I d.length), (123, I a.1)]) (fun a => ext h2 h2.low (some (numM strV (whoL F d.length)) :: some (numM strV (whoL G d.length)) :: a.2)) (fun a => a.1 ≤ d.length) (fun a => d.length - a.1) (fun a hi ih => ?_) (0, R) (by simp) (by repeat (first | exact sub_nil | apply sub_cons rfl)) (.refl _)
    clear R
    obtain ⟨i, R⟩ := a
    simp only at hi ih ⊢
    have ih' := fun i' R' a1 a2 => ih (i', R') a1 a2
    simp only at ih'
    clear ih
    apply ct_seq
    apply ct_region
    apply seq_plain; exact do_binInt rfl rfl rfl trivial; exact rfl
    apply seq_nil
    apply ct_seq
    refine ct_cond rfl (fun h1 => ?_) (fun h1 => ?_)
    · simp only [decide_eq_true_eq, Int.ofNat_lt] at h1
      obtain ⟨b, o, cs, z, s, ro, hq, hgb, hw⟩ := hd2.at_.out (by intro e; rw [e] at h1; simp at h1)
      have hx := (hd2.each _ (List.getElem_mem h1)).slAt
      obtain ⟨hrow, hrow2⟩ := hg.row _ (List.getElem_mem h1)
      rw [hq] at ih' ⊢
      apply ct_skip
      apply ct_seq
      apply ct_block
      apply ct_seq
      apply ct_region
      apply seq_plain; exact do_move rfl; exact rfl
      apply seq_plain; exact do_assign rfl; exact rfl
      apply seq_nil
      apply ct_seq
      apply ct_region
      apply seq_plain; exact do_move rfl; exact rfl
      apply seq_plain; exact do_move rfl; exact rfl
      apply seq_plain; exact do_indexAddrS rfl rfl rfl (by exact idx_nat (by omega)); exact rfl
      apply seq_plain; exact do_load rfl (by exact ext_get_old (by assumption) (by assumption)) rfl (by exact sz_get (by assumption) (by omega)); exact rfl
      apply seq_plain; exact do_lenS rfl rfl rfl; exact rfl
      apply seq_plain; exact do_move rfl; exact rfl
      apply seq_nil
      apply ct_block
      apply ct_loop
      refine lt_up (fun j => [(0, .slice (some ⟨b, o, none⟩) d.length c), (1, I n), (9, .map (some (nb h2 0))), (10, .map (some (nb h2 1))), (13, I i), (122, I d.length), (123, I i), (129, .slice d[i].p d[i].l.length d[i].c), (130, I d[i].l.length), (131, I j)]) (fun _ => True) d[i].l.length (fun j hj _ ih2 => ?_) 0 (by omega) trivial (by repeat (first | exact sub_nil | apply sub_cons rfl))
      apply ct_seq
      apply ct_region
      apply seq_plain; exact do_binInt rfl rfl rfl trivial; exact rfl
      apply seq_nil
      apply ct_seq
      refine ct_cond rfl (fun h4 => ?_) (fun h4 => ?_)
      · simp only [decide_eq_true_eq, Int.ofNat_lt] at h4
        obtain ⟨b2, o2, cs2, z2, s2, ro2, hp2, hg2, hw2⟩ := hx.out (by intro e; rw [e] at h4; simp at h4)
        obtain ⟨t, ht⟩ : ∃ t : Nat, t = if i + 1 < d.length ∧ d[i].l.length - n ≤ j then i + 1 else if 0 < i ∧ j < n then i - 1 else i := ⟨_, rfl⟩
        have hmem := hwhere i h1 j h4 t ht
        rw [hp2] at ih2 ⊢
        apply ct_skip
        apply ct_seq
        apply ct_block
        apply ct_seq
        apply ct_region
        apply seq_plain; exact do_move rfl; exact rfl
        apply seq_plain; exact do_indexAddrS rfl rfl rfl (by exact idx_nat (by omega)); exact rfl
        apply seq_plain; exact do_load rfl (by exact ext_get_old (by assumption) (by assumption)) rfl (by exact pt_sl0 (by assumption) (by omega)); exact rfl
        apply seq_plain; exact do_assign rfl; exact rfl
        apply seq_plain; exact do_assign rfl; exact rfl
        apply seq_nil
        apply ct_seq
        apply ct_region
        apply seq_plain; exact do_move rfl; exact rfl
        apply seq_plain; exact do_move rfl; exact rfl
        apply seq_plain; exact do_numGet (f := strV) (a := d[i].l[j]) (ks := whoL G d.length) (n := (t : Int)) rfl rfl (ext_get_new rfl) rfl keyStr hndK hmem; exact rfl
        apply seq_plain; exact do_move rfl; exact rfl
        apply seq_plain; exact do_extract rfl rfl; exact rfl
        apply seq_plain; exact do_extract rfl rfl; exact rfl
        apply seq_plain; exact do_assign rfl; exact rfl
        apply seq_plain; exact do_assign rfl; exact rfl
        apply seq_nil
        apply ct_seq
        apply ct_region
        apply seq_plain; exact do_move rfl; exact rfl
        apply seq_plain; exact do_assign rfl; exact rfl
        apply seq_nil
        apply ct_seq
        apply ct_seq
        apply ct_region
        apply seq_plain; exact do_move rfl; exact rfl
        apply seq_plain; exact do_binInt rfl rfl rfl trivial; exact rfl
        apply seq_plain; exact do_move rfl; exact rfl
        obtain ⟨w1, hw1⟩ : ∃ w1 : Nat, w1 = if 0 < i ∧ j < n then i - 1 else i := ⟨_, rfl⟩
        rw [← hw1] at ht
        refine seq_J [(0, .slice (some ⟨b, o, none⟩) d.length c), (1, I n), (9, .map (some (nb h2 0))), (10, .map (some (nb h2 1))), (13, I i), (14, I j), (16, I t), (17, .bool true), (122, I d.length), (123, I i), (129, .slice (some ⟨b2, o2, none⟩) d[i].l.length d[i].c), (130, I d[i].l.length), (131, I j), (18, I i), (149, .bool (decide (0 < i ∧ j < n)))] (ds := []) (h := ext h2 h2.low (some (numM strV (whoL F d.length)) :: some (numM strV (whoL G d.length)) :: R)) ?_ ?_
        · have e1 : decide (0 < i ∧ j < n) = (decide ((i : Int) > 0) && decide ((j : Int) < n)) := by
            rw [Bool.eq_iff_iff]; simp
          rw [e1]
          refine seq_gsplit rfl rfl (fun u1 => ?_) (fun u1 => ?_)
          · rw [u1]
            apply seq_guard (hd := rfl) (hl := rfl); exact do_move rfl; exact rfl
            apply seq_guard (hd := rfl) (hl := rfl); exact do_move rfl; exact rfl
            apply seq_guard (hd := rfl) (hl := rfl); exact do_binInt rfl rfl rfl trivial; exact rfl
            apply seq_plain; exact do_pick_t rfl rfl; exact rfl
            apply seq_nil
            exact jp_of (by repeat (first | exact sub_nil | apply sub_cons rfl))
          · rw [u1]
            apply seq_passed (hd := rfl) (hl := rfl) (hb := rfl); exact rfl
            apply seq_passed (hd := rfl) (hl := rfl) (hb := rfl); exact rfl
            apply seq_passed (hd := rfl) (hl := rfl) (hb := rfl); exact rfl
            apply seq_plain; exact do_pick_f rfl rfl; exact rfl
            apply seq_nil
            exact jp_of (by repeat (first | exact sub_nil | apply sub_cons rfl))
        skip
        refine ct_J [(0, .slice (some ⟨b, o, none⟩) d.length c), (1, I n), (9, .map (some (nb h2 0))), (10, .map (some (nb h2 1))), (13, I i), (14, I j), (16, I t), (17, .bool true), (122, I d.length), (123, I i), (129, .slice (some ⟨b2, o2, none⟩) d[i].l.length d[i].c), (130, I d[i].l.length), (131, I j), (18, I w1)] (ds := []) (h := ext h2 h2.low (some (numM strV (whoL F d.length)) :: some (numM strV (whoL G d.length)) :: R)) ?_ ?_
        · refine ct_cond rfl (fun h5 => ?_) (fun h5 => ?_)
          · have h5 := of_decide_eq_true h5
            have e : w1 = i - 1 := by rw [hw1, if_pos h5]
            rw [e]
            have h6 := h5.1
            apply ct_region
            apply seq_plain; exact do_move rfl; exact rfl
            apply seq_plain; exact do_predN rfl rfl (by omega) (by omega); exact rfl
            apply seq_plain; exact do_assign rfl; exact rfl
            apply seq_nil
            exact jp_of (by repeat (first | exact sub_nil | apply sub_cons rfl))
          · have h5 := of_decide_eq_false h5
            have e : w1 = i := by rw [hw1, if_neg h5]
            rw [e]
            apply ct_skip
            exact jp_of (by repeat (first | exact sub_nil | apply sub_cons rfl))
        apply ct_seq
        apply ct_seq
        apply ct_region
        apply seq_plain; exact do_move rfl; exact rfl
        apply seq_plain; exact do_succ rfl (by omega); exact rfl
        apply seq_plain; exact do_move rfl; exact rfl
        apply seq_plain; exact do_lenS rfl rfl rfl; exact rfl
        apply seq_plain; exact do_binInt rfl rfl rfl trivial; exact rfl
        apply seq_plain; exact do_move rfl; exact rfl
        refine seq_J [(0, .slice (some ⟨b, o, none⟩) d.length c), (1, I n), (9, .map (some (nb h2 0))), (10, .map (some (nb h2 1))), (13, I i), (14, I j), (16, I t), (17, .bool true), (122, I d.length), (123, I i), (129, .slice (some ⟨b2, o2, none⟩) d[i].l.length d[i].c), (130, I d[i].l.length), (131, I j), (18, I w1), (167, .bool (decide (i + 1 < d.length ∧ d[i].l.length - n ≤ j)))] (ds := []) (h := ext h2 h2.low (some (numM strV (whoL F d.length)) :: some (numM strV (whoL G d.length)) :: R)) ?_ ?_
        · have e1 : decide (i + 1 < d.length ∧ d[i].l.length - n ≤ j) = (decide (((i + 1 : Nat) : Int) < (d.length : Int)) && decide ((j : Int) ≥ ((d[i].l.length - n : Nat) : Int))) := by
            rw [Bool.eq_iff_iff]; simp only [Bool.and_eq_true, decide_eq_true_eq]; omega
          rw [e1]
          refine seq_gsplit rfl rfl (fun u1 => ?_) (fun u1 => ?_)
          · rw [u1]
            apply seq_guard (hd := rfl) (hl := rfl); exact do_move rfl; exact rfl
            apply seq_guard (hd := rfl) (hl := rfl); exact do_move rfl; exact rfl
            apply seq_guard (hd := rfl) (hl := rfl); exact do_move rfl; exact rfl
            apply seq_guard (hd := rfl) (hl := rfl); exact do_indexAddrS rfl rfl rfl (by exact idx_nat (by omega)); exact rfl
            apply seq_guard (hd := rfl) (hl := rfl); exact do_load rfl (by exact ext_get_old (by assumption) (by assumption)) rfl (by exact sz_get (by assumption) (by omega)); exact rfl
            apply seq_guard (hd := rfl) (hl := rfl); exact do_lenS rfl rfl rfl; exact rfl
            apply seq_guard (hd := rfl) (hl := rfl); exact do_move rfl; exact rfl
            apply seq_guard (hd := rfl) (hl := rfl); exact do_subN rfl rfl (by omega) (by omega); exact rfl
            apply seq_guard (hd := rfl) (hl := rfl); exact do_binInt rfl rfl rfl trivial; exact rfl
            apply seq_plain; exact do_pick_t rfl rfl; exact rfl
            apply seq_nil
            exact jp_of (by repeat (first | exact sub_nil | apply sub_cons rfl))
          · rw [u1]
            apply seq_passed (hd := rfl) (hl := rfl) (hb := rfl); exact rfl
            apply seq_passed (hd := rfl) (hl := rfl) (hb := rfl); exact rfl
            apply seq_passed (hd := rfl) (hl := rfl) (hb := rfl); exact rfl
            apply seq_passed (hd := rfl) (hl := rfl) (hb := rfl); exact rfl
            apply seq_passed (hd := rfl) (hl := rfl) (hb := rfl); exact rfl
            apply seq_passed (hd := rfl) (hl := rfl) (hb := rfl); exact rfl
            apply seq_passed (hd := rfl) (hl := rfl) (hb := rfl); exact rfl
            apply seq_passed (hd := rfl) (hl := rfl) (hb := rfl); exact rfl
            apply seq_passed (hd := rfl) (hl := rfl) (hb := rfl); exact rfl
            apply seq_plain; exact do_pick_f rfl rfl; exact rfl
            apply seq_nil
            exact jp_of (by repeat (first | exact sub_nil | apply sub_cons rfl))
        skip
        refine ct_J [(0, .slice (some ⟨b, o, none⟩) d.length c), (1, I n), (9, .map (some (nb h2 0))), (10, .map (some (nb h2 1))), (13, I i), (14, I j), (16, I t), (17, .bool true), (122, I d.length), (123, I i), (129, .slice (some ⟨b2, o2, none⟩) d[i].l.length d[i].c), (130, I d[i].l.length), (131, I j), (18, I t)] (ds := []) (h := ext h2 h2.low (some (numM strV (whoL F d.length)) :: some (numM strV (whoL G d.length)) :: R)) ?_ ?_
        · refine ct_cond rfl (fun h5 => ?_) (fun h5 => ?_)
          · have h5 := of_decide_eq_true h5
            have e : t = i + 1 := by rw [ht, if_pos h5]
            rw [e]
            apply ct_region
            apply seq_plain; exact do_move rfl; exact rfl
            apply seq_plain; exact do_succ rfl (by omega); exact rfl
            apply seq_plain; exact do_assign rfl; exact rfl
            apply seq_nil
            exact jp_of (by repeat (first | exact sub_nil | apply sub_cons rfl))
          · have h5 := of_decide_eq_false h5
            have e : t = w1 := by rw [ht, if_neg h5]
            rw [e]
            apply ct_skip
            exact jp_of (by repeat (first | exact sub_nil | apply sub_cons rfl))
        apply ct_seq
        apply ct_region
        apply seq_plain; exact do_move rfl; exact rfl
        apply seq_plain; exact do_unOp rfl rfl; exact rfl
        apply seq_plain; exact do_move rfl; exact rfl
        apply seq_guard (hd := rfl) (hl := rfl); exact do_move rfl; exact rfl
        apply seq_guard (hd := rfl) (hl := rfl); exact do_move rfl; exact rfl
        apply seq_guard (hd := rfl) (hl := rfl); exact do_binInt rfl rfl rfl trivial; exact rfl
        apply seq_plain; exact do_pick_f rfl rfl; exact rfl
        apply seq_nil
        refine ct_cond_f rfl (by simp) ?_
        apply ct_skip
        apply ct_region
        apply seq_plain; exact do_succ rfl (by omega); exact rfl
        apply seq_plain; exact do_move rfl; exact rfl
        apply seq_nil
        exact lt_to (by repeat (first | exact sub_nil | apply sub_cons rfl)) (.refl _) (ih2 (j + 1) (by omega) (by omega) trivial)
      · simp only [decide_eq_false_iff_not, Int.ofNat_lt] at h4
        apply ct_exit
        apply exit_eq; exact rfl
        apply ct_region
        apply seq_plain; exact do_succ rfl (by omega); exact rfl
        apply seq_plain; exact do_move rfl; exact rfl
        apply seq_nil
        exact lt_to (by repeat (first | exact sub_nil | apply sub_cons rfl)) (.refl _) (ih' (i + 1) R (by omega) (by omega))
    · apply ct_exit
      apply exit_eq; exact rfl
      apply ct_seq
      apply ct_region
      apply seq_plain; exact do_move rfl; exact rfl
      apply seq_plain; exact do_builtin rfl (bi_lenNum (f := strV) (ks := whoL F d.length) rfl (ext_get_new rfl)); exact rfl
      apply seq_plain; exact do_move rfl; exact rfl
      apply seq_plain; exact do_builtin rfl (bi_lenNum (f := strV) (ks := whoL G d.length) rfl (ext_get_new rfl)); exact rfl
      apply seq_plain; exact do_binInt rfl rfl rfl trivial; exact rfl
      apply seq_plain; exact do_assign rfl; exact rfl
      apply seq_nil
      apply ct_ret
      exact fin_id rfl (by simp [packA, hlenK])
end Go.Proofs.YtiggikjbknoohaaGreatDoor
