/- Contracts: a match entered in a row. -/
import Derived.Test.YtppflopinmkpgaaDoorTcE
import Derived.Test.YtppflopinmkpgaaDoorSxQ
noncomputable section
namespace Go.Proofs.YtppflopinmkpgaaDoor
open Go Go.Den
set_option maxRecDepth 100000

abbrev rwB (T : List Rw) (z : Nat) (s : Bool) : ABlk := .cells (T.flatMap rw9) z s false
theorem rw_sl (l : List Rw) : ∀ j (h : j < l.length), sliceIn (l.flatMap rw9) (0 + j * 9) 9 = some (rw9 l[j]) := fun j h => by
  have := pt_flat (f := rw9) (w := 9) rw9_len h
  simp only [pt] at this
  split at this
  · rename_i x hx; cases this; exact hx
  · cases this
theorem rw_flat (T : List Rw) : (T.flatMap rw9).all (flatD 8) = true := by
  rw [List.all_eq_true]
  intro v hv
  obtain ⟨x, _, hx⟩ := List.mem_flatMap.1 hv
  simp only [rw9, List.mem_cons, List.not_mem_nil, or_false] at hx
  rcases hx with rfl | rfl | rfl | rfl | rfl | rfl | rfl | rfl | rfl <;> rfl
theorem rw_pt {T : List Rw} {i n j : Nat} {v : Value} (h : i < T.length) (hj : j < 9) (hv : (rw9 T[i])[j]? = some v) : pt false n (T.flatMap rw9) (0 + i * 9 + j) = some v := by
  have := sliceIn_at (rw_sl T i h) hj
  rw [hv] at this
  simpa [pt] using this
theorem rwS_pt {T : List Rw} {x : Rw} {i n j : Nat} {v : Value} (h : i < T.length) (hj : j < 9) (hv : (rw9 x)[j]? = some v) : pt false n ((T.set i x).flatMap rw9) (0 + i * 9 + j) = some v :=
  rw_pt (by rw [List.length_set]; exact h) hj (by rw [List.getElem_set_self]; exact hv)
theorem rwS_st {T : List Rw} {x x' : Rw} {i j : Nat} {v : Value} (h : i < T.length) (hj : j < 9) (hv : (rw9 x).set j v = rw9 x') (hg : v.cells.toList = [v]) (ho : oneCell v = true) :
    stl 1 ((T.set i x).flatMap rw9) (0 + i * 9 + j * 1) v = some ((T.set i x').flatMap rw9) := by
  have := stl_flat (f := rw9) (w := 9) (l := T.set i x) (i := i) (j := j) (v := v) (x' := x') rw9_len (by rw [List.length_set]; exact h) hj (by rw [List.getElem_set_self]; exact hv) hg ho
  rwa [List.set_set] at this
theorem cg_next {H H1 : AHeap} {T : List Rw} {b i z : Nat} {s : Bool} {x x' : Rw} {lo : Nat} (h : Cg H H1 b (rwB (T.set i x) z s)) (hb : own b = true) (hlt : b < H.fresh) :
    ∃ H2 lo2, H2 = H1.put b (rwB (T.set i x') z s) ∧ lo2 = min lo b ∧ Cg H H2 b (rwB (T.set i x') z s) ∧ Closed H2 ∧ b < H2.fresh ∧ H2.get b = some (rwB (T.set i x') z s) := by
  have c := h.put (z := z) (s := s) (ro := false) hb hlt (rw_flat (T.set i x'))
  exact ⟨_, _, rfl, rfl, c, c.puts.closed, by rw [c.puts.fresh]; exact hlt, c.at_⟩
set_option maxHeartbeats 1000000 in
theorem add_c {H : AHeap} {T : List Rw} {b i : Nat} {z : Nat} {s : Bool} {r : Ru} {own' other sc : Int} (hb : own b = true) (hlt : b < H.fresh) (hg : H.get b = some (rwB T z s)) (hi : i < T.length)
    (b1 : 0 ≤ T[i].played ∧ T[i].played ≤ 1000000) (b2 : -1000000 ≤ T[i].fr ∧ T[i].fr ≤ 1000000) (b3 : -1000000 ≤ T[i].ag ∧ T[i].ag ≤ 1000000) (b6 : (0 ≤ T[i].won ∧ T[i].won ≤ 1000000) ∧ (0 ≤ T[i].lost ∧ T[i].lost ≤ 1000000) ∧ (0 ≤ T[i].drawn ∧ T[i].drawn ≤ 1000000) ∧ (0 ≤ T[i].pts ∧ T[i].pts ≤ 1000000)) (b7 : (0 ≤ r.win ∧ r.win ≤ 1000000) ∧ (0 ≤ r.loss ∧ r.loss ≤ 1000000) ∧ (0 ≤ r.draw ∧ r.draw ≤ 1000000)) (b4 : -1000000 ≤ own' ∧ own' ≤ 1000000) (b5 : -1000000 ≤ other ∧ other ≤ 1000000) :
    Ret Tryd.prog 59 [.pointer (some ⟨b, 0 + i * 9, none⟩), I own', I other, I sc, ruV r] H (packA []) (H.put b (rwB (T.set i (addR r T[i] own' other sc)) z s)) := by
  refine fn_start Tryd.func59 rfl rfl rfl fun hc0 => ?_
  obtain ⟨x, hx⟩ : ∃ x, x = T[i] := ⟨_, rfl⟩
  rw [← hx] at b1 b2 b3 b6 ⊢
  have hg0 : H.get b = some (rwB (T.set i x) z s) := by rw [hx, List.set_getElem_self]; exact hg
  clear hg
  have hl0 := hlt
  have c0 := Cg.refl hc0 hg0
  have p0 : pt false 1 ((T.set i x).flatMap rw9) (0 + i * 9 + 1) = some (I x.played) := rwS_pt hi (by decide) rfl
  apply ct_seq
  apply ct_region
  apply seq_newP; exact do_box rfl rfl rfl; exact rfl
  apply seq_nil
  apply ct_seq
  apply ct_region
  apply seq_plain; exact do_move rfl; exact rfl
  apply seq_plain; exact do_nilCheck rfl; exact rfl
  apply seq_plain; exact do_fieldAddr rfl rfl; exact rfl
  apply seq_plain; exact do_load rfl (by exact ext_get_old (by assumption) (by assumption)) rfl (by exact (by assumption)); exact rfl
  apply seq_plain; exact do_add rfl rfl (by omega); exact rfl
  apply seq_plain; exact do_nilCheck rfl; exact rfl
  apply seq_plain; exact do_fieldAddr rfl rfl; exact rfl
  apply seq_putOC (hc := hc0) (hb := hb) (hlt := hl0) (x := rwB (T.set i { x with played := x.played + 1 }) z s)
  · exact do_store rfl rfl (ext_get_old hc0 hg0) rfl (rwS_st (j := 1) hi (by omega) rfl rfl rfl) hb
  obtain ⟨H1, lo1, e1, f1, c1, hc1, hl1, hg1⟩ := cg_next c0 (x' := { x with played := x.played + 1 }) (lo := H.fresh) hb hlt
  rw [← e1, ← f1]
  clear hc0 hl0 hg0
  have p1 : pt false 1 ((T.set i { x with played := x.played + 1 }).flatMap rw9) (0 + i * 9 + 5) = some (I x.fr) := rwS_pt hi (by decide) rfl
  apply ct_seq
  apply ct_region
  apply seq_plain; exact do_move rfl; exact rfl
  apply seq_plain; exact do_nilCheck rfl; exact rfl
  apply seq_plain; exact do_fieldAddr rfl rfl; exact rfl
  apply seq_plain; exact do_load rfl (by exact ext_get_old (by assumption) (by assumption)) rfl (by exact (by assumption)); exact rfl
  apply seq_plain; exact do_move rfl; exact rfl
  apply seq_plain; exact do_add rfl rfl (by omega); exact rfl
  apply seq_plain; exact do_nilCheck rfl; exact rfl
  apply seq_plain; exact do_fieldAddr rfl rfl; exact rfl
  apply seq_putOC (hc := hc1) (hb := hb) (hlt := hl1) (x := rwB (T.set i { x with played := x.played + 1, fr := x.fr + own' }) z s)
  · exact do_store rfl rfl (ext_get_old hc1 hg1) rfl (rwS_st (j := 5) hi (by omega) rfl rfl rfl) hb
  obtain ⟨H2, lo2, e2, f2, c2, hc2, hl2, hg2⟩ := cg_next c1 (x' := { x with played := x.played + 1, fr := x.fr + own' }) (lo := lo1) hb hlt
  rw [← e2, ← f2]
  clear hc1 hl1 hg1
  have p2 : pt false 1 ((T.set i { x with played := x.played + 1, fr := x.fr + own' }).flatMap rw9) (0 + i * 9 + 6) = some (I x.ag) := rwS_pt hi (by decide) rfl
  apply ct_seq
  apply ct_region
  apply seq_plain; exact do_move rfl; exact rfl
  apply seq_plain; exact do_nilCheck rfl; exact rfl
  apply seq_plain; exact do_fieldAddr rfl rfl; exact rfl
  apply seq_plain; exact do_load rfl (by exact ext_get_old (by assumption) (by assumption)) rfl (by exact (by assumption)); exact rfl
  apply seq_plain; exact do_move rfl; exact rfl
  apply seq_plain; exact do_add rfl rfl (by omega); exact rfl
  apply seq_plain; exact do_nilCheck rfl; exact rfl
  apply seq_plain; exact do_fieldAddr rfl rfl; exact rfl
  apply seq_putOC (hc := hc2) (hb := hb) (hlt := hl2) (x := rwB (T.set i { x with played := x.played + 1, fr := x.fr + own', ag := x.ag + other }) z s)
  · exact do_store rfl rfl (ext_get_old hc2 hg2) rfl (rwS_st (j := 6) hi (by omega) rfl rfl rfl) hb
  obtain ⟨H3, lo3, e3, f3, c3, hc3, hl3, hg3⟩ := cg_next c2 (x' := { x with played := x.played + 1, fr := x.fr + own', ag := x.ag + other }) (lo := lo2) hb hlt
  rw [← e3, ← f3]
  clear hc2 hl2 hg2
  apply ct_block
  apply ct_seq
  apply ct_region
  apply seq_plain; exact do_move rfl; exact rfl
  apply seq_plain; exact do_binInt rfl rfl rfl trivial; exact rfl
  apply seq_plain; exact do_assign rfl; exact rfl
  apply seq_nil
  refine ct_cond rfl (fun k1 => ?_) (fun k1 => ?_)
  · have k1 : sc > 0 := by simpa using k1
    have p3 : pt false 1 ((T.set i { x with played := x.played + 1, fr := x.fr + own', ag := x.ag + other }).flatMap rw9) (0 + i * 9 + 2) = some (I x.won) := rwS_pt hi (by decide) rfl
    apply ct_seq
    apply ct_region
    apply seq_plain; exact do_move rfl; exact rfl
    apply seq_plain; exact do_nilCheck rfl; exact rfl
    apply seq_plain; exact do_fieldAddr rfl rfl; exact rfl
    apply seq_plain; exact do_load rfl (by exact ext_get_old (by assumption) (by assumption)) rfl (by exact (by assumption)); exact rfl
    apply seq_plain; exact do_add rfl rfl (by omega); exact rfl
    apply seq_plain; exact do_nilCheck rfl; exact rfl
    apply seq_plain; exact do_fieldAddr rfl rfl; exact rfl
    apply seq_putOC (hc := hc3) (hb := hb) (hlt := hl3) (x := rwB (T.set i { x with played := x.played + 1, fr := x.fr + own', ag := x.ag + other, won := x.won + 1 }) z s)
    · exact do_store rfl rfl (ext_get_old hc3 hg3) rfl (rwS_st (j := 2) hi (by omega) rfl rfl rfl) hb
    obtain ⟨H4, lo4, e4, f4, c4, hc4, hl4, hg4⟩ := cg_next c3 (x' := { x with played := x.played + 1, fr := x.fr + own', ag := x.ag + other, won := x.won + 1 }) (lo := lo3) hb hlt
    rw [← e4, ← f4]
    clear hc3 hl3 hg3
    have hb4 : (ext H4 lo4 [some (ABlk.cells (ruL r) 0 false false)]).get (nb H 0) = some (.cells (ruL r) 0 false false) := by
      have e : nb H 0 = nb H4 0 := by simp only [nb, c4.puts.next]
      rw [e]; exact ext_get_new rfl
    have p4 : pt false 1 ((T.set i { x with played := x.played + 1, fr := x.fr + own', ag := x.ag + other, won := x.won + 1 }).flatMap rw9) (0 + i * 9 + 7) = some (I x.pts) := rwS_pt hi (by decide) rfl
    apply ct_draw (by assumption); decide +kernel
    apply sd_plain (hfree := rfl); intro _; exact do_move rfl; exact rfl
    apply sd_plain (hfree := rfl); intro _; exact do_nilCheck rfl; exact rfl
    apply sd_plain (hfree := rfl); intro _; exact do_fieldAddr rfl rfl; exact rfl
    apply sd_look (hfree := rfl); exact do_load rfl (by exact ext_get_old (by assumption) (by assumption)) rfl (by exact (by assumption)); exact rfl
    apply sd_plain (hfree := rfl); intro _; exact do_fieldAddr rfl rfl; exact rfl
    apply sd_look (hfree := rfl); exact do_load rfl (by assumption) rfl (by exact rfl); exact rfl
    apply sd_plain (hfree := rfl); intro _; exact do_add rfl rfl (by omega); exact rfl
    apply sd_plain (hfree := rfl); intro _; exact do_nilCheck rfl; exact rfl
    apply sd_plain (hfree := rfl); intro _; exact do_fieldAddr rfl rfl; exact rfl
    refine sd_putO0 (b := b) (x := rwB (T.set i { x with played := x.played + 1, fr := x.fr + own', ag := x.ag + other, won := x.won + 1, pts := x.pts + r.win }) z s) rfl (by decide +kernel) hc4 hb hl4 (do_store rfl rfl (ext_get_old hc4 hg4) rfl (rwS_st (j := 7) hi (by omega) rfl rfl rfl) hb) ?_
    obtain ⟨H5, lo5, e5, f5, c5, hc5, hl5, hg5⟩ := cg_next c4 (x' := { x with played := x.played + 1, fr := x.fr + own', ag := x.ag + other, won := x.won + 1, pts := x.pts + r.win }) (lo := lo4) hb hlt
    rw [← e5, ← f5]
    apply sd_nil
    have ew : addR r x own' other sc = { x with played := x.played + 1, fr := x.fr + own', ag := x.ag + other, won := x.won + 1, pts := x.pts + r.win } := by simp [addR, k1, show ¬ sc < 0 by omega, show ¬ sc = 0 by omega]
    refine fin_cg hb hlt ⟨_, _, _, _, rfl, rw_flat _⟩ c5 rfl rfl ?_
    rw [ew]; exact ⟨rfl, rfl⟩
  have k1 : ¬ sc > 0 := by simpa using k1
  apply ct_seq
  apply ct_region
  apply seq_plain; exact do_move rfl; exact rfl
  apply seq_plain; exact do_binInt rfl rfl rfl trivial; exact rfl
  apply seq_plain; exact do_assign rfl; exact rfl
  apply seq_nil
  refine ct_cond rfl (fun k2 => ?_) (fun k2 => ?_)
  · have k2 : sc < 0 := by simpa using k2
    have p3 : pt false 1 ((T.set i { x with played := x.played + 1, fr := x.fr + own', ag := x.ag + other }).flatMap rw9) (0 + i * 9 + 4) = some (I x.lost) := rwS_pt hi (by decide) rfl
    apply ct_seq
    apply ct_region
    apply seq_plain; exact do_move rfl; exact rfl
    apply seq_plain; exact do_nilCheck rfl; exact rfl
    apply seq_plain; exact do_fieldAddr rfl rfl; exact rfl
    apply seq_plain; exact do_load rfl (by exact ext_get_old (by assumption) (by assumption)) rfl (by exact (by assumption)); exact rfl
    apply seq_plain; exact do_add rfl rfl (by omega); exact rfl
    apply seq_plain; exact do_nilCheck rfl; exact rfl
    apply seq_plain; exact do_fieldAddr rfl rfl; exact rfl
    apply seq_putOC (hc := hc3) (hb := hb) (hlt := hl3) (x := rwB (T.set i { x with played := x.played + 1, fr := x.fr + own', ag := x.ag + other, lost := x.lost + 1 }) z s)
    · exact do_store rfl rfl (ext_get_old hc3 hg3) rfl (rwS_st (j := 4) hi (by omega) rfl rfl rfl) hb
    obtain ⟨H4, lo4, e4, f4, c4, hc4, hl4, hg4⟩ := cg_next c3 (x' := { x with played := x.played + 1, fr := x.fr + own', ag := x.ag + other, lost := x.lost + 1 }) (lo := lo3) hb hlt
    rw [← e4, ← f4]
    clear hc3 hl3 hg3
    have hb4 : (ext H4 lo4 [some (ABlk.cells (ruL r) 0 false false)]).get (nb H 0) = some (.cells (ruL r) 0 false false) := by
      have e : nb H 0 = nb H4 0 := by simp only [nb, c4.puts.next]
      rw [e]; exact ext_get_new rfl
    have p4 : pt false 1 ((T.set i { x with played := x.played + 1, fr := x.fr + own', ag := x.ag + other, lost := x.lost + 1 }).flatMap rw9) (0 + i * 9 + 7) = some (I x.pts) := rwS_pt hi (by decide) rfl
    apply ct_draw (by assumption); decide +kernel
    apply sd_plain (hfree := rfl); intro _; exact do_move rfl; exact rfl
    apply sd_plain (hfree := rfl); intro _; exact do_nilCheck rfl; exact rfl
    apply sd_plain (hfree := rfl); intro _; exact do_fieldAddr rfl rfl; exact rfl
    apply sd_look (hfree := rfl); exact do_load rfl (by exact ext_get_old (by assumption) (by assumption)) rfl (by exact (by assumption)); exact rfl
    apply sd_plain (hfree := rfl); intro _; exact do_fieldAddr rfl rfl; exact rfl
    apply sd_look (hfree := rfl); exact do_load rfl (by assumption) rfl (by exact rfl); exact rfl
    apply sd_plain (hfree := rfl); intro _; exact do_add rfl rfl (by omega); exact rfl
    apply sd_plain (hfree := rfl); intro _; exact do_nilCheck rfl; exact rfl
    apply sd_plain (hfree := rfl); intro _; exact do_fieldAddr rfl rfl; exact rfl
    refine sd_putO0 (b := b) (x := rwB (T.set i { x with played := x.played + 1, fr := x.fr + own', ag := x.ag + other, lost := x.lost + 1, pts := x.pts + r.loss }) z s) rfl (by decide +kernel) hc4 hb hl4 (do_store rfl rfl (ext_get_old hc4 hg4) rfl (rwS_st (j := 7) hi (by omega) rfl rfl rfl) hb) ?_
    obtain ⟨H5, lo5, e5, f5, c5, hc5, hl5, hg5⟩ := cg_next c4 (x' := { x with played := x.played + 1, fr := x.fr + own', ag := x.ag + other, lost := x.lost + 1, pts := x.pts + r.loss }) (lo := lo4) hb hlt
    rw [← e5, ← f5]
    apply sd_nil
    have ew : addR r x own' other sc = { x with played := x.played + 1, fr := x.fr + own', ag := x.ag + other, lost := x.lost + 1, pts := x.pts + r.loss } := by simp [addR, k1, k2, show ¬ sc = 0 by omega]
    refine fin_cg hb hlt ⟨_, _, _, _, rfl, rw_flat _⟩ c5 rfl rfl ?_
    rw [ew]; exact ⟨rfl, rfl⟩
  · have k2 : ¬ sc < 0 := by simpa using k2
    have p3 : pt false 1 ((T.set i { x with played := x.played + 1, fr := x.fr + own', ag := x.ag + other }).flatMap rw9) (0 + i * 9 + 3) = some (I x.drawn) := rwS_pt hi (by decide) rfl
    apply ct_seq
    apply ct_region
    apply seq_plain; exact do_move rfl; exact rfl
    apply seq_plain; exact do_nilCheck rfl; exact rfl
    apply seq_plain; exact do_fieldAddr rfl rfl; exact rfl
    apply seq_plain; exact do_load rfl (by exact ext_get_old (by assumption) (by assumption)) rfl (by exact (by assumption)); exact rfl
    apply seq_plain; exact do_add rfl rfl (by omega); exact rfl
    apply seq_plain; exact do_nilCheck rfl; exact rfl
    apply seq_plain; exact do_fieldAddr rfl rfl; exact rfl
    apply seq_putOC (hc := hc3) (hb := hb) (hlt := hl3) (x := rwB (T.set i { x with played := x.played + 1, fr := x.fr + own', ag := x.ag + other, drawn := x.drawn + 1 }) z s)
    · exact do_store rfl rfl (ext_get_old hc3 hg3) rfl (rwS_st (j := 3) hi (by omega) rfl rfl rfl) hb
    obtain ⟨H4, lo4, e4, f4, c4, hc4, hl4, hg4⟩ := cg_next c3 (x' := { x with played := x.played + 1, fr := x.fr + own', ag := x.ag + other, drawn := x.drawn + 1 }) (lo := lo3) hb hlt
    rw [← e4, ← f4]
    clear hc3 hl3 hg3
    have hb4 : (ext H4 lo4 [some (ABlk.cells (ruL r) 0 false false)]).get (nb H 0) = some (.cells (ruL r) 0 false false) := by
      have e : nb H 0 = nb H4 0 := by simp only [nb, c4.puts.next]
      rw [e]; exact ext_get_new rfl
    have p4 : pt false 1 ((T.set i { x with played := x.played + 1, fr := x.fr + own', ag := x.ag + other, drawn := x.drawn + 1 }).flatMap rw9) (0 + i * 9 + 7) = some (I x.pts) := rwS_pt hi (by decide) rfl
    apply ct_draw (by assumption); decide +kernel
    apply sd_plain (hfree := rfl); intro _; exact do_move rfl; exact rfl
    apply sd_plain (hfree := rfl); intro _; exact do_nilCheck rfl; exact rfl
    apply sd_plain (hfree := rfl); intro _; exact do_fieldAddr rfl rfl; exact rfl
    apply sd_look (hfree := rfl); exact do_load rfl (by exact ext_get_old (by assumption) (by assumption)) rfl (by exact (by assumption)); exact rfl
    apply sd_plain (hfree := rfl); intro _; exact do_fieldAddr rfl rfl; exact rfl
    apply sd_look (hfree := rfl); exact do_load rfl (by assumption) rfl (by exact rfl); exact rfl
    apply sd_plain (hfree := rfl); intro _; exact do_add rfl rfl (by omega); exact rfl
    apply sd_plain (hfree := rfl); intro _; exact do_nilCheck rfl; exact rfl
    apply sd_plain (hfree := rfl); intro _; exact do_fieldAddr rfl rfl; exact rfl
    refine sd_putO0 (b := b) (x := rwB (T.set i { x with played := x.played + 1, fr := x.fr + own', ag := x.ag + other, drawn := x.drawn + 1, pts := x.pts + r.draw }) z s) rfl (by decide +kernel) hc4 hb hl4 (do_store rfl rfl (ext_get_old hc4 hg4) rfl (rwS_st (j := 7) hi (by omega) rfl rfl rfl) hb) ?_
    obtain ⟨H5, lo5, e5, f5, c5, hc5, hl5, hg5⟩ := cg_next c4 (x' := { x with played := x.played + 1, fr := x.fr + own', ag := x.ag + other, drawn := x.drawn + 1, pts := x.pts + r.draw }) (lo := lo4) hb hlt
    rw [← e5, ← f5]
    apply sd_nil
    have ew : addR r x own' other sc = { x with played := x.played + 1, fr := x.fr + own', ag := x.ag + other, drawn := x.drawn + 1, pts := x.pts + r.draw } := by simp [addR, k1, k2, show sc = 0 by omega]
    refine fin_cg hb hlt ⟨_, _, _, _, rfl, rw_flat _⟩ c5 rfl rfl ?_
    rw [ew]; exact ⟨rfl, rfl⟩
end Go.Proofs.YtppflopinmkpgaaDoor
