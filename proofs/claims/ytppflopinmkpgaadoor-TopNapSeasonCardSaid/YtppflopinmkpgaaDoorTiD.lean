/- Contracts: the search for a further point of a match. -/
import Derived.Test.YtppflopinmkpgaaDoorTiC
noncomputable section
namespace Go.Proofs.YtppflopinmkpgaaDoor
open Go Go.Den Go.Den.Title
set_option maxRecDepth 100000

/-- three blocks of the caller hold something else; all others lie as they did -/
structure Turn (H h : AHeap) (bg br bs : Nat) (gb rb sb : ABlk) : Prop where
  next : h.next = H.next
  low : h.low ≤ H.low
  g : h.get bg = some gb
  r : h.get br = some rb
  s : h.get bs = some sb
  rest : ∀ b, b ≠ bg → b ≠ br → b ≠ bs → h.get b = H.get b

structure Three (H : AHeap) (bg br bs : Nat) : Prop where
  og : own bg = true
  orr : own br = true
  os : own bs = true
  lg : bg < H.fresh
  lr : br < H.fresh
  ls : bs < H.fresh
  gr : bg ≠ br
  gs : bg ≠ bs
  rs : br ≠ bs

theorem turn_ext {H1 h : AHeap} {lo : Nat} {L : List (Option ABlk)} {bg br bs : Nat} {gb rb sb : ABlk} (hc : Closed H1) (h3 : Three H1 bg br bs) (ht : Turn (ext H1 lo L) h bg br bs gb rb sb) :
    HQ h (ext (((H1.put bg gb).put br rb).put bs sb) h.low L) := by
  have c1 := closed_put (x := gb) hc h3.og h3.lg
  have c2 : Closed ((H1.put bg gb).put br rb) := closed_put c1 h3.orr h3.lr
  have c3 : Closed (((H1.put bg gb).put br rb).put bs sb) := closed_put c2 h3.os h3.ls
  refine ⟨fun b => ?_, ?_, ?_⟩
  · by_cases e1 : b = bs
    · rw [e1, ht.s, ext_get_low (H := ((H1.put bg gb).put br rb).put bs sb) (.inr h3.ls), put_same h3.os]
    · by_cases e2 : b = br
      · rw [e2, ht.r, ext_get_low (H := ((H1.put bg gb).put br rb).put bs sb) (.inr h3.lr), put_get h3.os, if_neg h3.rs, put_same h3.orr]
      · by_cases e3 : b = bg
        · rw [e3, ht.g, ext_get_low (H := ((H1.put bg gb).put br rb).put bs sb) (.inr h3.lg), put_get h3.os, if_neg h3.gs, put_get h3.orr, if_neg h3.gr, put_same h3.og]
        · rw [ht.rest b e3 e2 e1, ext_get hc, ext_get c3]
          have hf : (((H1.put bg gb).put br rb).put bs sb).fresh = H1.fresh := rfl
          have hn : (((H1.put bg gb).put br rb).put bs sb).next = H1.next := rfl
          rw [hf, hn]
          split
          · rfl
          · rw [put_get h3.os, if_neg e1, put_get h3.orr, if_neg e2, put_get h3.og, if_neg e3]
  · rw [ht.next]; rfl
  · show h.low = min h.low H1.fresh
    have h1 : h.low ≤ min lo H1.fresh := ht.low
    omega

def gB (l : List (Int × Int)) : ABlk := .cells (l.flatMap p2) 2 false false
def rB (l : List Int) : ABlk := .cells (l.map I) 1 false false
def sB (l : List Bool) : ABlk := .cells (l.map Value.bool) 1 false false
theorem flat_bools (m : List Bool) : (m.map Value.bool).all (flatD 8) = true := by
  rw [List.all_eq_true]
  intro x hx
  obtain ⟨y, _, rfl⟩ := List.mem_map.1 hx
  rfl

structure Inv (H H1 : AHeap) (bg br bs : Nat) (given : List (Int × Int)) (room : List Int) (seen : List Bool) : Prop where
  puts : Puts H H1
  turn : Turn H H1 bg br bs (gB given) (rB room) (sB seen)
section
variable {H H1 : AHeap} {bg br bs : Nat} {given given' : List (Int × Int)} {room room' : List Int} {seen seen' : List Bool}
theorem Three.to (h3 : Three H bg br bs) (hi : Puts H H1) : Three H1 bg br bs := ⟨h3.og, h3.orr, h3.os, by rw [hi.fresh]; exact h3.lg, by rw [hi.fresh]; exact h3.lr, by rw [hi.fresh]; exact h3.ls, h3.gr, h3.gs, h3.rs⟩
theorem Inv.putG (h3 : Three H bg br bs) (hi : Inv H H1 bg br bs given room seen) : Inv H (H1.put bg (gB given')) bg br bs given' room seen :=
  ⟨hi.puts.put h3.og h3.lg (flat_all (fun _ => rfl) _), ⟨hi.turn.next, Nat.le_trans (Nat.min_le_left _ _) hi.turn.low, put_same h3.og, put_ne h3.og h3.gr.symm hi.turn.r, put_ne h3.og h3.gs.symm hi.turn.s, fun b h1 h2 h3' => by rw [put_get h3.og, if_neg h1]; exact hi.turn.rest b h1 h2 h3'⟩⟩
theorem Inv.putR (h3 : Three H bg br bs) (hi : Inv H H1 bg br bs given room seen) : Inv H (H1.put br (rB room')) bg br bs given room' seen :=
  ⟨hi.puts.put h3.orr h3.lr (flat_ints _), ⟨hi.turn.next, Nat.le_trans (Nat.min_le_left _ _) hi.turn.low, put_ne h3.orr h3.gr hi.turn.g, put_same h3.orr, put_ne h3.orr h3.rs.symm hi.turn.s, fun b h1 h2 h3' => by rw [put_get h3.orr, if_neg h2]; exact hi.turn.rest b h1 h2 h3'⟩⟩
theorem Inv.putS (h3 : Three H bg br bs) (hi : Inv H H1 bg br bs given room seen) : Inv H (H1.put bs (sB seen')) bg br bs given room seen' :=
  ⟨hi.puts.put h3.os h3.ls (flat_bools _), ⟨hi.turn.next, Nat.le_trans (Nat.min_le_left _ _) hi.turn.low, put_ne h3.os h3.gs hi.turn.g, put_ne h3.os h3.rs hi.turn.r, put_same h3.os, fun b h1 h2 h3' => by rw [put_get h3.os, if_neg h3']; exact hi.turn.rest b h1 h2 h3'⟩⟩
end

/-- where the parts of the flow lie -/
structure FlowAt (H : AHeap) (bf bg br bs bo oo : Nat) (q : Option Addr) (c d : Nat) (opn given : List (Int × Int)) (room : List Int) (seen : List Bool) : Prop where
  three : Three H bg br bs
  f : ∃ z s ro, H.get bf = some (.cells [.slice q room.length c, .slice (some ⟨bo, oo, none⟩) opn.length d, .slice (some ⟨bg, 0, none⟩) opn.length opn.length, .slice (some ⟨br, 0, none⟩) room.length room.length] z s ro)
  o : ∃ cs z s ro, H.get bo = some (.cells cs z s ro) ∧ ∀ i (h : i < opn.length), sliceIn cs (oo + i * 2) 2 = some (p2 opn[i])
  g : H.get bg = some (gB given)
  r : H.get br = some (rB room)
  s : H.get bs = some (sB seen)
  nf : bf ≠ bg ∧ bf ≠ br ∧ bf ≠ bs
  no : bo ≠ bg ∧ bo ≠ br ∧ bo ≠ bs

theorem FlowAt.step {H H1 : AHeap} {lo : Nat} {L : List (Option ABlk)} {bf bg br bs bo oo : Nat} {q : Option Addr} {c d : Nat} {opn given : List (Int × Int)} {room : List Int} {seen seen' : List Bool} (hf : FlowAt H bf bg br bs bo oo q c d opn given room seen) (hi : Inv H H1 bg br bs given room seen') :
    FlowAt (ext H1 lo L) bf bg br bs bo oo q c d opn given room seen' := by
  have hc1 := hi.puts.closed
  have h3 := hf.three.to hi.puts
  have old : ∀ {b : Nat} {x : ABlk}, b ≠ bg → b ≠ br → b ≠ bs → H.get b = some x → (ext H1 lo L).get b = some x := fun h1 h2 h3 hx => ext_get_old hc1 (by rw [hi.turn.rest _ h1 h2 h3]; exact hx)
  have hle : H1.fresh ≤ (ext H1 lo L).fresh := by rw [ext_fresh]; exact nb_ge _
  refine ⟨⟨h3.og, h3.orr, h3.os, Nat.lt_of_lt_of_le h3.lg hle, Nat.lt_of_lt_of_le h3.lr hle, Nat.lt_of_lt_of_le h3.ls hle, h3.gr, h3.gs, h3.rs⟩, ?_, ?_, ext_get_old hc1 hi.turn.g, ext_get_old hc1 hi.turn.r, ext_get_old hc1 hi.turn.s, hf.nf, hf.no⟩
  · obtain ⟨z, s, ro, h⟩ := hf.f
    exact ⟨z, s, ro, old hf.nf.1 hf.nf.2.1 hf.nf.2.2 h⟩
  · obtain ⟨cs, z, s, ro, h, hw⟩ := hf.o
    exact ⟨cs, z, s, ro, old hf.no.1 hf.no.2.1 hf.no.2.2 h, hw⟩

theorem pt_tm {p : Int × Int} {a n : Nat} (ha : a < 2) : pt false n (p2 p) (a * 1) = some (I (tm p a)) := by
  have : a = 0 ∨ a = 1 := by omega
  rcases this with rfl | rfl <;> rfl
theorem pt_p2 {l : List (Int × Int)} {i a n : Nat} (h : i < l.length) (ha : a < 2) : pt false n (l.flatMap p2) (0 + i * 2 + a * 1) = some (I (tm l[i] a)) := by
  have hv : (p2 l[i])[a]? = some (I (tm l[i] a)) := by
    have : a = 0 ∨ a = 1 := by omega
    rcases this with rfl | rfl <;> rfl
  rw [Nat.mul_one]
  exact pt_flat1 (w := 2) (fun _ => rfl) h hv
theorem p2_add {g : Int × Int} {a : Nat} {d : Int} (ha : a < 2) : (p2 g).set a (I (tm g a + d)) = p2 (addG g a d) := by
  have : a = 0 ∨ a = 1 := by omega
  rcases this with rfl | rfl <;> rfl

theorem idx2 {t : Int} {p : Int × Int} : (idxOf (fun x => t == x) [p.1, p.2] 0 = -1 ∧ p.1 ≠ t ∧ p.2 ≠ t) ∨ ∃ a : Nat, a < 2 ∧ tm p a = t ∧ idxOf (fun x => t == x) [p.1, p.2] 0 = ((a : Nat) : Int) ∧ (a = 1 → p.1 ≠ t) := by
  by_cases h1 : t = p.1
  · right
    exact ⟨0, by omega, by simp [tm, h1], by simp [idxOf, h1], by omega⟩
  · by_cases h2 : t = p.2
    · right
      refine ⟨1, by omega, by simp [tm, h2], ?_, fun _ e => h1 e.symm⟩
      have : (t == p.1) = false := by simpa using h1
      simp only [idxOf, this]
      simp [h2]
    · left
      have e1 : (t == p.1) = false := by simpa using h1
      have e2 : (t == p.2) = false := by simpa using h2
      exact ⟨by simp [idxOf, e1, e2], fun e => h1 e.symm, fun e => h2 e.symm⟩

structure Part (opn given : List (Int × Int)) (room : List Int) (s0 s1 : List Bool) (t : Int) (j : Nat) (s2 : List Bool) : Prop where
  len : s2.length = s1.length
  mono : ∀ u, on s1 u → on s2 u
  new : ∀ u, 0 ≤ u → on s2 u → ¬ on s0 u → u = t ∨ NewOk opn given room s2 u
  done : ∀ (i : Nat) p g, i < j → opn[i]? = some p → given[i]? = some g → (p.1 = t → g.1 ≠ 0 → on s2 p.2) ∧ (p.2 = t → g.2 ≠ 0 → on s2 p.1)

theorem Part.next {opn given : List (Int × Int)} {room : List Int} {s0 s1 s2 s3 : List Bool} {t : Int} {j : Nat} (h : Part opn given room s0 s1 t j s2) (k : Fails opn given room s2 s3) (hj : ∀ p g, opn[j]? = some p → given[j]? = some g → (p.1 = t → g.1 ≠ 0 → on s3 p.2) ∧ (p.2 = t → g.2 ≠ 0 → on s3 p.1)) : Part opn given room s0 s1 t (j + 1) s3 := by
  refine ⟨k.len.trans h.len, fun u hu => k.mono u (h.mono u hu), fun u h0 h3 hn => ?_, fun i p g hi hp hg => ?_⟩
  · by_cases h2 : on s2 u
    · exact (h.new u h0 h2 hn).imp id fun x => x.mono k.mono
    · exact .inr (k.new u h0 h3 h2)
  · rcases Nat.lt_or_ge i j with h1 | h1
    · have := h.done i p g h1 hp hg
      exact ⟨fun a b => k.mono _ (this.1 a b), fun a b => k.mono _ (this.2 a b)⟩
    · have : i = j := by omega
      subst this
      exact hj p g hp hg

theorem Inv.facts {H H1 : AHeap} {bf bg br bs bo oo : Nat} {q : Option Addr} {c d zf zo : Nat} {sf rof so roo : Bool} {cso : List Value} {opn given given1 : List (Int × Int)} {room room1 : List Int} {seen seen1 : List Bool} (hF : FlowAt H bf bg br bs bo oo q c d opn given room seen)
    (hFf : H.get bf = some (.cells [.slice q room.length c, .slice (some ⟨bo, oo, none⟩) opn.length d, .slice (some ⟨bg, 0, none⟩) opn.length opn.length, .slice (some ⟨br, 0, none⟩) room.length room.length] zf sf rof)) (hFo : H.get bo = some (.cells cso zo so roo))
    (hi : Inv H H1 bg br bs given1 room1 seen1) : Closed H1 ∧ H1.fresh = H.fresh ∧ H1.get bf = some (.cells [.slice q room.length c, .slice (some ⟨bo, oo, none⟩) opn.length d, .slice (some ⟨bg, 0, none⟩) opn.length opn.length, .slice (some ⟨br, 0, none⟩) room.length room.length] zf sf rof) ∧ H1.get bo = some (.cells cso zo so roo) ∧
      H1.get bg = some (.cells (given1.flatMap p2) 2 false false) ∧ H1.get br = some (.cells (room1.map I) 1 false false) ∧ H1.get bs = some (.cells (seen1.map Value.bool) 1 false false) :=
  ⟨hi.puts.closed, hi.puts.fresh, by rw [hi.turn.rest _ hF.nf.1 hF.nf.2.1 hF.nf.2.2]; exact hFf, by rw [hi.turn.rest _ hF.no.1 hF.no.2.1 hF.no.2.2]; exact hFo, hi.turn.g, hi.turn.r, hi.turn.s⟩

theorem take_done {opn given given' : List (Int × Int)} {room room' : List Int} {seen s1 : List Bool} {mi : Nat} (hl : s1.length = seen.length) (hm : ∀ t, on seen t → on s1 t) (h : Moved opn given room seen mi given' room') : TakeR opn given room seen mi true given' room' s1 :=
  ⟨hl, hm, fun e => (by cases e), fun _ => h⟩

set_option maxHeartbeats 8000000 in
theorem take_c : ∀ (N : Nat) {H : AHeap} {bf bg br bs bo oo : Nat} {q : Option Addr} {c d : Nat} {opn given : List (Int × Int)} {room : List Int} {seen : List Bool} {mi : Nat}, FlowAt H bf bg br bs bo oo q c d opn given room seen → Ready opn given room seen → seen.countP (fun b => !b) < N → mi < opn.length → opn.length < 1000000 →
    CallT Tryd.prog 41 [.pointer (some ⟨bf, 0, none⟩), I mi, .slice (some ⟨bs, 0, none⟩) room.length room.length] H (fun v h => ∃ ok given' room' seen', v = .bool ok ∧ TakeR opn given room seen mi ok given' room' seen' ∧ Turn H h bg br bs (gB given') (rB room') (sB seen'))
  | 0, _, _, _, _, _, _, _, _, _, _, _, _, _, _, _, _, _, hN, _, _ => absurd hN (by omega)
  | N + 1, H, bf, bg, br, bs, bo, oo, q, c, d, opn, given, room, seen, mi, hF, hR, hN, hmi, hol => by
    have again := @take_c N
    have h3 := hF.three
    obtain ⟨zf, sf, rof, hFf⟩ := hF.f
    obtain ⟨cso, zo, so, roo, hFo, hw⟩ := hF.o
    have hlg := hR.lenG
    have hls := hR.lenS
    have hmg : mi < given.length := by omega
    have hea := hR.each _ (List.getElem_mem hmi)
    have hgp := hR.pos _ (List.getElem_mem hmg)
    refine fn_start Tryd.func41 rfl rfl rfl fun hc => ?_
    apply ct_seq
    apply ct_region
    apply seq_plain; exact do_assign rfl; exact rfl
    apply seq_nil
    apply ct_scope
    apply ct_seq
    apply ct_region
    apply seq_plain; exact do_move rfl; exact rfl
    apply seq_plain; exact do_nilCheck rfl; exact rfl
    apply seq_plain; exact do_fieldAddr rfl rfl; exact rfl
    apply seq_plain; exact do_fieldAddr rfl rfl; exact rfl
    apply seq_plain; exact do_load rfl (by exact ext_get_old (by assumption) (by assumption)) rfl (by exact rfl); exact rfl
    apply seq_plain; exact do_move rfl; exact rfl
    apply seq_plain; exact do_indexAddrS rfl rfl rfl (by exact idx_nat (by omega)); exact rfl
    apply seq_plain; exact do_load rfl (by exact ext_get_old (by assumption) (by assumption)) rfl (by exact pt_sl (by assumption) (by omega)); exact rfl
    apply seq_newP; exact do_alloc rfl rfl; exact rfl
    apply seq_putC (hc := by assumption); rotate_left; exact do_store rfl rfl (by exact ext_get_new rfl) rfl rfl (nb_own _); rotate_left; exact Nat.le_of_ble_eq_true rfl
    apply ct_seq
    apply ct_label
    apply ct_seq
    apply ct_seq
    apply ct_region
    apply seq_plain; exact do_load rfl (by exact ext_get_new rfl) rfl (by exact rfl); exact rfl
    apply seq_plain; exact do_move rfl; exact rfl
    apply seq_nil
    apply ct_block
    apply ct_loop
    refine lt_meas (α := Nat × AHeap × Nat × List (Option ABlk) × List Bool) (fun a => [(0, .pointer (some ⟨bf, 0, none⟩)), (1, I mi), (2, .slice (some ⟨bs, 0, none⟩) room.length room.length), (21, .agg ⟨p2 opn[mi]⟩), (22, I a.1)]) (fun a => ext a.2.1 a.2.2.1 a.2.2.2.1)
      (fun a => a.1 ≤ 2 ∧ Inv H a.2.1 bg br bs given room a.2.2.2.2 ∧ Fails opn given room seen a.2.2.2.2 ∧ ∀ k, k < a.1 → on a.2.2.2.2 (tm opn[mi] k)) (fun a => 2 - a.1) (fun a ha ih => ?_) (0, H, H.fresh, _, seen) ⟨by omega, ⟨Puts.refl hc, ⟨rfl, Nat.le_refl _, hF.g, hF.r, hF.s, fun _ _ _ _ => rfl⟩⟩, .refl, by intros; omega⟩ (by repeat (first | exact sub_nil | apply sub_cons rfl)) (.refl _)
    obtain ⟨side, H1, lo, L, s⟩ := a
    obtain ⟨hside, hi, hfa, hon⟩ := ha
    simp only at hside hi hfa hon ih ⊢
    have ih' := fun a b c d e a1 a2 a3 a4 a5 => ih (a, b, c, d, e) a1 ⟨a2, a3, a4, a5⟩
    simp only at ih'
    clear ih
    obtain ⟨hc1, hf1, gf, go, gg, gr, gs⟩ := hi.facts hF hFf hFo
    have hsl : s.length = room.length := by rw [hfa.len]; exact hls
    apply ct_seq
    apply ct_region
    apply seq_plain; exact do_binInt rfl rfl rfl trivial; exact rfl
    apply seq_nil
    apply ct_seq
    refine ct_cond rfl (fun h1 => ?_) (fun h1 => ?_)
    · simp only [decide_eq_true_eq] at h1
      have hs2 : side < 2 := by omega
      have ht0 : 0 ≤ tm opn[mi] side ∧ tm opn[mi] side < room.length := by unfold tm; split <;> omega
      have htl : (tm opn[mi] side).toNat < s.length := by omega
      have htr : (tm opn[mi] side).toNat < room.length := by omega
      apply ct_skip
      apply ct_seq
      apply ct_block
      apply ct_seq
      apply ct_region
      apply seq_plain; exact do_move rfl; exact rfl
      apply seq_plain; exact do_indexA rfl rfl rfl (by exact idx_nat (by omega)) (by exact pt_tm (by assumption)); exact rfl
      apply seq_plain; exact do_assign rfl; exact rfl
      apply seq_plain; exact do_assign rfl; exact rfl
      apply seq_nil
      apply ct_seq
      apply ct_seq
      apply ct_region
      apply seq_plain; exact do_move rfl; exact rfl
      apply seq_plain; exact do_move rfl; exact rfl
      apply seq_plain; exact do_indexAddrS rfl rfl rfl (by exact idx_int (by omega)); exact rfl
      apply seq_plain; exact do_load rfl (by exact ext_get_old (by assumption) (by assumption)) rfl (by exact pt_map (by omega)); exact rfl
      apply seq_nil
      refine ct_cond rfl (fun u1 => ?_) (fun u1 => ?_)
      · have u1 : s[(tm opn[mi] side).toNat] = true := u1
        have hont : on s (tm opn[mi] side) := by unfold on; rw [List.getElem?_eq_getElem htl, u1]
        apply ct_exit
        apply exit_eq; exact rfl
        apply ct_region
        apply seq_plain; exact do_succ rfl (by omega); exact rfl
        apply seq_plain; exact do_move rfl; exact rfl
        apply seq_nil
        refine lt_sub ?_ (ih' (side + 1) H1 lo L s (by omega) (by omega) hi hfa fun k hk => ?_)
        · (repeat (first | exact sub_nil | apply sub_cons rfl))
        · rcases Nat.lt_or_ge k side with h | h
          · exact hon k h
          · have : k = side := by omega
            subst this; exact hont
      · have u1 : s[(tm opn[mi] side).toNat] = false := u1
        have hnont : ¬ on s (tm opn[mi] side) := by unfold on; rw [List.getElem?_eq_getElem htl, u1]; simp
        have hns : ¬ on seen (tm opn[mi] side) := fun h => hnont (hfa.mono _ h)
        have hcnt := countP_set htl u1
        have hcnt2 := fails_count hfa.len hfa.mono
        have hs1l : (s.set (tm opn[mi] side).toNat true).length = room.length := by rw [List.length_set]; exact hsl
        have hont : on (s.set (tm opn[mi] side).toNat true) (tm opn[mi] side) := (on_set ht0.1 (by omega) ht0.1).2 (.inl rfl)
        have hm1 : ∀ u, on s u → on (s.set (tm opn[mi] side).toNat true) u := fun u h => on_set_of htl h
        apply ct_skip
        apply ct_seq
        apply ct_region
        apply seq_plain; exact do_move rfl; exact rfl
        apply seq_plain; exact do_move rfl; exact rfl
        apply seq_plain; exact do_indexAddrS rfl rfl rfl (by exact idx_int (by omega)); exact rfl
        refine seq_putOC (b := bs) (x := sB (s.set (tm opn[mi] side).toNat true)) hc1 h3.os (by rw [hf1]; exact h3.ls) (do_store rfl rfl (ext_get_old hc1 gs) rfl (stl_map (v := true) htl rfl rfl) h3.os) ?_
        have i2 := Inv.putS (seen' := s.set (tm opn[mi] side).toNat true) h3 hi
        generalize H1.put bs (sB (s.set (tm opn[mi] side).toNat true)) = H2 at i2 ⊢
        generalize min lo bs = lo2
        obtain ⟨hc2, hf2, gf2, go2, gg2, gr2, gs2⟩ := i2.facts hF hFf hFo
        have hrp := hR.rpos _ (List.getElem_mem htr)
        have hrm := ptL_eq htr
        apply ct_seq
        apply ct_seq
        apply ct_region
        apply seq_plain; exact do_move rfl; exact rfl
        apply seq_plain; exact do_nilCheck rfl; exact rfl
        apply seq_plain; exact do_fieldAddr rfl rfl; exact rfl
        apply seq_plain; exact do_load rfl (by exact ext_get_old (by assumption) (by assumption)) rfl (by exact rfl); exact rfl
        apply seq_plain; exact do_move rfl; exact rfl
        apply seq_plain; exact do_indexAddrS rfl rfl rfl (by exact idx_int (by omega)); exact rfl
        apply seq_plain; exact do_load rfl (by exact ext_get_old (by assumption) (by assumption)) rfl (by exact pt_map (by omega)); exact rfl
        apply seq_plain; exact do_binInt rfl rfl rfl trivial; exact rfl
        apply seq_nil
        refine ct_cond rfl (fun u2 => ?_) (fun u2 => ?_)
        · simp only [decide_eq_true_eq] at u2
          have htg : tm given[mi] side ≤ 1000 ∧ 0 ≤ tm given[mi] side := by unfold tm; split <;> omega
          apply ct_seq
          apply ct_region
          apply seq_plain; exact do_move rfl; exact rfl
          apply seq_plain; exact do_nilCheck rfl; exact rfl
          apply seq_plain; exact do_fieldAddr rfl rfl; exact rfl
          apply seq_plain; exact do_load rfl (by exact ext_get_old (by assumption) (by assumption)) rfl (by exact rfl); exact rfl
          apply seq_plain; exact do_move rfl; exact rfl
          apply seq_plain; exact do_indexAddrS rfl rfl rfl (by exact idx_int (by omega)); exact rfl
          apply seq_plain; exact do_load rfl (by exact ext_get_old (by assumption) (by assumption)) rfl (by exact pt_map (by omega)); exact rfl
          apply seq_plain; exact do_sub rfl rfl (by omega); exact rfl
          apply seq_plain; exact do_indexAddrS rfl rfl rfl (by exact idx_int (by omega)); exact rfl
          refine seq_putOC (b := br) (x := rB (room.set (tm opn[mi] side).toNat (room[(tm opn[mi] side).toNat] - 1))) hc2 h3.orr (by rw [hf2]; exact h3.lr) (do_store rfl rfl (ext_get_old hc2 gr2) rfl (stl_map htr rfl rfl) h3.orr) ?_
          have i3 := Inv.putR (room' := room.set (tm opn[mi] side).toNat (room[(tm opn[mi] side).toNat] - 1)) h3 i2
          generalize H2.put br (rB (room.set (tm opn[mi] side).toNat (room[(tm opn[mi] side).toNat] - 1))) = H3 at i3 ⊢
          generalize min lo2 br = lo3
          obtain ⟨hc3, hf3, gf3, go3, gg3, gr3, gs3⟩ := i3.facts hF hFf hFo
          apply ct_seq
          apply ct_draw (by assumption); decide +kernel
          apply sd_plain (hfree := rfl); intro _; exact do_move rfl; exact rfl
          apply sd_plain (hfree := rfl); intro _; exact do_nilCheck rfl; exact rfl
          apply sd_plain (hfree := rfl); intro _; exact do_fieldAddr rfl rfl; exact rfl
          apply sd_look (hfree := rfl); exact do_load rfl (by exact ext_get_old (by assumption) (by assumption)) rfl (by exact rfl); exact rfl
          apply sd_plain (hfree := rfl); intro _; exact do_move rfl; exact rfl
          apply sd_plain (hfree := rfl); intro _; exact do_move rfl; exact rfl
          apply sd_plain (hfree := rfl); intro _; exact do_indexAddrS rfl rfl rfl (by exact idx_nat (by omega)); exact rfl
          apply sd_plain (hfree := rfl); intro _; exact do_indexAddrA rfl rfl rfl (by exact idx_nat (by omega)); exact rfl
          apply sd_look (hfree := rfl); exact do_load rfl (by exact ext_get_old (by assumption) (by assumption)) rfl (by exact pt_p2 (by omega) (by assumption)); exact rfl
          apply sd_plain (hfree := rfl); intro _; exact do_add rfl rfl (by omega); exact rfl
          apply sd_plain (hfree := rfl); intro _; exact do_indexAddrS rfl rfl rfl (by exact idx_nat (by omega)); exact rfl
          apply sd_plain (hfree := rfl); intro _; exact do_indexAddrA rfl rfl rfl (by exact idx_nat (by omega)); exact rfl
          refine sd_putOC (b := bg) (x := gB (given.set mi (addG given[mi] side 1))) rfl (by decide +kernel) hc3 h3.og (by rw [hf3]; exact h3.lg) (do_store rfl rfl (ext_get_old hc3 gg3) rfl (stl_flat (f := p2) (w := 2) (fun _ => rfl) hmg hs2 (p2_add hs2) rfl rfl) h3.og) ?_
          have i4 := Inv.putG (given' := given.set mi (addG given[mi] side 1)) h3 i3
          apply ct_seq
          apply ct_region
          apply seq_plain; exact do_assign rfl; exact rfl
          apply seq_nil
          apply ct_ret
          refine fin_puts i4.puts rfl rfl ⟨true, _, _, _, rfl, take_done (by rw [hs1l, hls]) (fun u hu => hm1 u (hfa.mono u hu)) ?_, i4.turn⟩
          rw [hrm]
          exact moved_room hR hmi hs2 rfl hns (by rw [← hrm]; exact u2) hmg
        · simp only [decide_eq_false_iff_not] at u2
          apply ct_skip
          apply ct_seq
          apply ct_seq
          apply ct_region
          apply seq_plain; exact do_move rfl; exact rfl
          apply seq_plain; exact do_nilCheck rfl; exact rfl
          apply seq_plain; exact do_fieldAddr rfl rfl; exact rfl
          apply seq_plain; exact do_fieldAddr rfl rfl; exact rfl
          apply seq_plain; exact do_load rfl (by exact ext_get_old (by assumption) (by assumption)) rfl (by exact rfl); exact rfl
          apply seq_plain; exact do_lenS rfl rfl rfl; exact rfl
          apply seq_plain; exact do_move rfl; exact rfl
          apply seq_nil
          apply ct_block
          apply ct_loop
          refine lt_meas (α := Nat × AHeap × Nat × List (Option ABlk) × List Bool) (fun a => [(0, .pointer (some ⟨bf, 0, none⟩)), (1, I mi), (2, .slice (some ⟨bs, 0, none⟩) room.length room.length), (8, I side), (9, I (tm opn[mi] side)), (21, .agg ⟨p2 opn[mi]⟩), (22, I side), (66, .slice (some ⟨bo, oo, none⟩) opn.length d), (67, I opn.length), (68, I a.1)]) (fun a => ext a.2.1 a.2.2.1 a.2.2.2.1)
            (fun a => a.1 ≤ opn.length ∧ Inv H a.2.1 bg br bs given room a.2.2.2.2 ∧ Part opn given room seen (s.set (tm opn[mi] side).toNat true) (tm opn[mi] side) a.1 a.2.2.2.2) (fun a => opn.length - a.1) (fun a ha ih => ?_) (0, H2, lo2, _, s.set (tm opn[mi] side).toNat true)
            ⟨by omega, i2, ⟨rfl, fun _ h => h, fun u h0 hu hn => (by
              rcases (on_set ht0.1 (by omega) h0).1 hu with e | e
              · exact .inl e.symm
              · exact .inr ((hfa.new u h0 e hn).mono hm1)), fun i p g hi => absurd hi (by omega)⟩⟩ (by repeat (first | exact sub_nil | apply sub_cons rfl)) (.refl _)
          obtain ⟨j, H4, lo4, L4, s4⟩ := a
          obtain ⟨hj, i4, hp⟩ := ha
          simp only at hj i4 hp ih ⊢
          have ih2 := fun a b c d e a1 a2 a3 a4 => ih (a, b, c, d, e) a1 ⟨a2, a3, a4⟩
          simp only at ih2
          clear ih
          obtain ⟨hc4, hf4, gf4, go4, gg4, gr4, gs4⟩ := i4.facts hF hFf hFo
          have hon4 : on s4 (tm opn[mi] side) := hp.mono _ hont
          have hmm : ∀ u, on seen u → on s4 u := fun u hu => hp.mono u (hm1 u (hfa.mono u hu))
          have hl4 : s4.length = room.length := by rw [hp.len, hs1l]
          apply ct_seq
          apply ct_region
          apply seq_plain; exact do_binInt rfl rfl rfl trivial; exact rfl
          apply seq_nil
          apply ct_seq
          refine ct_cond rfl (fun h2 => ?_) (fun h2 => ?_)
          · simp only [decide_eq_true_eq, Int.ofNat_lt] at h2
            have hjg : j < given.length := by omega
            have hjp := hR.each _ (List.getElem_mem h2)
            have hjq := hR.pos _ (List.getElem_mem hjg)
            apply ct_skip
            apply ct_seq
            apply ct_block
            apply ct_seq
            apply ct_region
            apply seq_plain; exact do_move rfl; exact rfl
            apply seq_plain; exact do_indexAddrS rfl rfl rfl (by exact idx_nat (by omega)); exact rfl
            apply seq_plain; exact do_load rfl (by exact ext_get_old (by assumption) (by assumption)) rfl (by exact pt_sl (by assumption) (by omega)); exact rfl
            apply seq_newP; exact do_alloc rfl rfl; exact rfl
            apply seq_plain; exact do_assign rfl; exact rfl
            apply seq_putC (hc := by assumption); rotate_left; exact do_store rfl rfl (by exact ext_get_new List.getElem?_concat_length) rfl rfl (nb_own _); rotate_left; exact (by simp)
            apply ct_seq
            apply ct_region
            apply seq_plain; exact do_sliceArr rfl rfl rfl; exact rfl
            apply seq_plain; exact do_move rfl; exact rfl
            apply seq_call (ht := rfl); exact index_c (l := [opn[j].1, opn[j].2]) (slAt_map (by exact ext_get_new getSetLast)) (by simp); exact rfl
            apply seq_plain; exact do_assign rfl; exact rfl
            apply seq_nil
            apply ct_seq
            apply ct_seq
            apply ct_region
            apply seq_plain; exact do_move rfl; exact rfl
            apply seq_plain; exact do_binInt rfl rfl rfl trivial; exact rfl
            apply seq_plain; exact do_move rfl; exact rfl
            rcases idx2 (t := tm opn[mi] side) (p := opn[j]) with ⟨e, n1, n2⟩ | ⟨a, ha, hta, e, hfst⟩
            · rw [e]
              apply seq_passed (hd := rfl) (hl := rfl) (hb := rfl); exact rfl
              apply seq_passed (hd := rfl) (hl := rfl) (hb := rfl); exact rfl
              apply seq_passed (hd := rfl) (hl := rfl) (hb := rfl); exact rfl
              apply seq_passed (hd := rfl) (hl := rfl) (hb := rfl); exact rfl
              apply seq_passed (hd := rfl) (hl := rfl) (hb := rfl); exact rfl
              apply seq_passed (hd := rfl) (hl := rfl) (hb := rfl); exact rfl
              apply seq_passed (hd := rfl) (hl := rfl) (hb := rfl); exact rfl
              apply seq_passed (hd := rfl) (hl := rfl) (hb := rfl); exact rfl
              apply seq_passed (hd := rfl) (hl := rfl) (hb := rfl); exact rfl
              apply seq_passed (hd := rfl) (hl := rfl) (hb := rfl); exact rfl
              apply seq_plain; exact do_pick_t rfl rfl; exact rfl
              apply seq_nil
              refine ct_cond_t rfl rfl ?_
              apply ct_exit
              apply exit_eq; exact rfl
              apply ct_region
              apply seq_plain; exact do_succ rfl (by omega); exact rfl
              apply seq_plain; exact do_move rfl; exact rfl
              apply seq_nil
              refine lt_sub ?_ (ih2 (j + 1) H4 lo4 _ s4 (by omega) (by omega) i4 (hp.next .refl fun p g hpp hgg => ?_))
              · (repeat (first | exact sub_nil | apply sub_cons rfl))
              · rw [List.getElem?_eq_getElem h2] at hpp
                cases hpp
                exact ⟨fun e => absurd e n1, fun e => absurd e n2⟩
            · rw [e]
              have en : decide (((a : Nat) : Int) < 0) = false := by simp
              rw [en]
              have htgj : tm given[j] a ≤ 1000 ∧ 0 ≤ tm given[j] a := by unfold tm; split <;> omega
              apply seq_guard (hd := rfl) (hl := rfl); exact do_move rfl; exact rfl
              apply seq_guard (hd := rfl) (hl := rfl); exact do_nilCheck rfl; exact rfl
              apply seq_guard (hd := rfl) (hl := rfl); exact do_fieldAddr rfl rfl; exact rfl
              apply seq_guard (hd := rfl) (hl := rfl); exact do_load rfl (by exact ext_get_old (by assumption) (by assumption)) rfl (by exact rfl); exact rfl
              apply seq_guard (hd := rfl) (hl := rfl); exact do_move rfl; exact rfl
              apply seq_guard (hd := rfl) (hl := rfl); exact do_move rfl; exact rfl
              apply seq_guard (hd := rfl) (hl := rfl); exact do_indexAddrS rfl rfl rfl (by exact idx_nat (by omega)); exact rfl
              apply seq_guard (hd := rfl) (hl := rfl); exact do_indexAddrA rfl rfl rfl (by exact idx_nat (by omega)); exact rfl
              apply seq_guard (hd := rfl) (hl := rfl); exact do_load rfl (by exact ext_get_old (by assumption) (by assumption)) rfl (by exact pt_p2 (by omega) (by assumption)); exact rfl
              apply seq_guard (hd := rfl) (hl := rfl); exact do_binInt rfl rfl rfl trivial; exact rfl
              apply seq_plain; exact do_pick_f rfl rfl; exact rfl
              apply seq_nil
              refine ct_cond rfl (fun z1 => ?_) (fun z1 => ?_)
              · have z1 : (tm given[j] a == 0) = true := z1
                have z1 : tm given[j] a = 0 := by simpa using z1
                apply ct_exit
                apply exit_eq; exact rfl
                apply ct_region
                apply seq_plain; exact do_succ rfl (by omega); exact rfl
                apply seq_plain; exact do_move rfl; exact rfl
                apply seq_nil
                refine lt_sub ?_ (ih2 (j + 1) H4 lo4 _ s4 (by omega) (by omega) i4 (hp.next .refl fun p g hpp hgg => ?_))
                · (repeat (first | exact sub_nil | apply sub_cons rfl))
                · rw [List.getElem?_eq_getElem h2] at hpp
                  rw [List.getElem?_eq_getElem hjg] at hgg
                  cases hpp; cases hgg
                  have ha01 : a = 0 ∨ a = 1 := by omega
                  rcases ha01 with rfl | rfl
                  · exact ⟨fun _ n => absurd z1 n, fun e => absurd (hta.trans e.symm) hjp.2.2⟩
                  · exact ⟨fun e => absurd e (hfst rfl), fun _ n => absurd z1 n⟩
              · have z1 : (tm given[j] a == 0) = false := z1
                have z1 : tm given[j] a ≠ 0 := by simpa using z1
                apply ct_skip
                apply ct_seq
                apply ct_region
                apply seq_plain; exact do_move rfl; exact rfl
                apply seq_plain; exact do_move rfl; exact rfl
                apply seq_plain; exact do_move rfl; exact rfl
                refine seq_callQ rfl (again (hF.step i4) ⟨hlg, hl4, hR.each, hR.pos, hR.rpos⟩ ?_ h2 hol) rfl (fun v h hv => ?_)
                · have := fails_count hp.len hp.mono
                  omega
                obtain ⟨ok, g1, r1, s5, rfl, hT, hTn⟩ := hv
                apply seq_nil
                refine ct_to sub_refl (turn_ext hc4 (h3.to i4.puts) hTn) ?_
                have i5 := Inv.putS (seen' := s5) h3 (Inv.putR (room' := r1) h3 (Inv.putG (given' := g1) h3 i4))
                generalize ((H4.put bg (gB g1)).put br (rB r1)).put bs (sB s5) = H5 at i5 ⊢
                generalize h.low = lo5
                obtain ⟨hc5, hf5, gf5, go5, gg5, gr5, gs5⟩ := i5.facts hF hFf hFo
                refine ct_cond rfl (fun k1 => ?_) (fun k1 => ?_)
                · have M := hT.succ k1
                  have hg1l := M.lenG
                  have hj1 : j < g1.length := by omega
                  have hm1l : mi < g1.length := by omega
                  have sj := M.sum j _ _ (List.getElem?_eq_getElem hjg) (List.getElem?_eq_getElem hj1)
                  rw [if_pos rfl] at sj
                  have bj : tm g1[j] a ≤ 1001 ∧ 0 ≤ tm g1[j] a := by unfold tm; split <;> omega
                  have smi := M.sum mi _ _ (List.getElem?_eq_getElem hmg) (List.getElem?_eq_getElem hm1l)
                  have hset : mi < (g1.set j (addG g1[j] a (-1))).length := by rw [List.length_set]; exact hm1l
                  have bmi : tm (g1.set j (addG g1[j] a (-1)))[mi] side ≤ 1001 ∧ -1 ≤ tm (g1.set j (addG g1[j] a (-1)))[mi] side := by
                    rw [List.getElem_set]
                    split
                    · rename_i ejm
                      rw [tm_add ha hs2]
                      have : tm g1[j] side ≤ 1001 ∧ 0 ≤ tm g1[j] side := by unfold tm; split <;> omega
                      split <;> omega
                    · have : g1[mi].1 + g1[mi].2 ≤ 1001 := by split at smi <;> omega
                      unfold tm; split <;> omega
                  apply ct_seq
                  apply ct_draw (by assumption); decide +kernel
                  apply sd_plain (hfree := rfl); intro _; exact do_move rfl; exact rfl
                  apply sd_plain (hfree := rfl); intro _; exact do_nilCheck rfl; exact rfl
                  apply sd_plain (hfree := rfl); intro _; exact do_fieldAddr rfl rfl; exact rfl
                  apply sd_look (hfree := rfl); exact do_load rfl (by exact ext_get_old (by assumption) (by assumption)) rfl (by exact rfl); exact rfl
                  apply sd_plain (hfree := rfl); intro _; exact do_move rfl; exact rfl
                  apply sd_plain (hfree := rfl); intro _; exact do_move rfl; exact rfl
                  apply sd_plain (hfree := rfl); intro _; exact do_indexAddrS rfl rfl rfl (by exact idx_nat (by omega)); exact rfl
                  apply sd_plain (hfree := rfl); intro _; exact do_indexAddrA rfl rfl rfl (by exact idx_nat (by omega)); exact rfl
                  apply sd_look (hfree := rfl); exact do_load rfl (by exact ext_get_old (by assumption) (by assumption)) rfl (by exact pt_p2 (by omega) (by assumption)); exact rfl
                  apply sd_plain (hfree := rfl); intro _; exact do_sub rfl rfl (by omega); exact rfl
                  apply sd_plain (hfree := rfl); intro _; exact do_indexAddrS rfl rfl rfl (by exact idx_nat (by omega)); exact rfl
                  apply sd_plain (hfree := rfl); intro _; exact do_indexAddrA rfl rfl rfl (by exact idx_nat (by omega)); exact rfl
                  refine sd_putOC (b := bg) (x := gB (g1.set j (addG g1[j] a (-1)))) rfl (by decide +kernel) hc5 h3.og (by rw [hf5]; exact h3.lg) (do_store rfl rfl (ext_get_old hc5 gg5) rfl (stl_flat (f := p2) (w := 2) (fun _ => rfl) hj1 ha (p2_add ha) rfl rfl) h3.og) ?_
                  have i6 := Inv.putG (given' := g1.set j (addG g1[j] a (-1))) h3 i5
                  generalize H5.put bg (gB (g1.set j (addG g1[j] a (-1)))) = H6 at i6 ⊢
                  generalize min lo5 bg = lo6
                  obtain ⟨hc6, hf6, gf6, go6, gg6, gr6, gs6⟩ := i6.facts hF hFf hFo
                  apply ct_seq
                  apply ct_draw (by assumption); decide +kernel
                  apply sd_plain (hfree := rfl); intro _; exact do_move rfl; exact rfl
                  apply sd_plain (hfree := rfl); intro _; exact do_nilCheck rfl; exact rfl
                  apply sd_plain (hfree := rfl); intro _; exact do_fieldAddr rfl rfl; exact rfl
                  apply sd_look (hfree := rfl); exact do_load rfl (by exact ext_get_old (by assumption) (by assumption)) rfl (by exact rfl); exact rfl
                  apply sd_plain (hfree := rfl); intro _; exact do_move rfl; exact rfl
                  apply sd_plain (hfree := rfl); intro _; exact do_move rfl; exact rfl
                  apply sd_plain (hfree := rfl); intro _; exact do_indexAddrS rfl rfl rfl (by exact idx_nat (by omega)); exact rfl
                  apply sd_plain (hfree := rfl); intro _; exact do_indexAddrA rfl rfl rfl (by exact idx_nat (by omega)); exact rfl
                  apply sd_look (hfree := rfl); exact do_load rfl (by exact ext_get_old (by assumption) (by assumption)) rfl (by exact pt_p2 (by omega) (by assumption)); exact rfl
                  apply sd_plain (hfree := rfl); intro _; exact do_add rfl rfl (by omega); exact rfl
                  apply sd_plain (hfree := rfl); intro _; exact do_indexAddrS rfl rfl rfl (by exact idx_nat (by omega)); exact rfl
                  apply sd_plain (hfree := rfl); intro _; exact do_indexAddrA rfl rfl rfl (by exact idx_nat (by omega)); exact rfl
                  refine sd_putOC (b := bg) (x := gB ((g1.set j (addG g1[j] a (-1))).set mi (addG (g1.set j (addG g1[j] a (-1)))[mi] side 1))) rfl (by decide +kernel) hc6 h3.og (by rw [hf6]; exact h3.lg) (do_store rfl rfl (ext_get_old hc6 gg6) rfl (stl_flat (f := p2) (w := 2) (fun _ => rfl) hset hs2 (p2_add hs2) rfl rfl) h3.og) ?_
                  have i7 := Inv.putG (given' := (g1.set j (addG g1[j] a (-1))).set mi (addG (g1.set j (addG g1[j] a (-1)))[mi] side 1)) h3 i6
                  apply ct_seq
                  apply ct_region
                  apply seq_plain; exact do_assign rfl; exact rfl
                  apply seq_nil
                  apply ct_ret
                  exact fin_puts i7.puts rfl rfl ⟨true, _, _, _, rfl, take_done (by rw [hT.len, hl4, hls]) (fun u hu => hT.mono u (hmm u hu)) (moved_other hR hmi hs2 rfl hns h2 ha hta M hmm hon4 hjg z1 hj1 hset), i7.turn⟩
                · obtain ⟨rfl, rfl, hfl, hboth⟩ := hT.fail k1
                  have hb := hboth _ (List.getElem?_eq_getElem h2)
                  apply ct_skip
                  apply ct_region
                  apply seq_plain; exact do_succ rfl (by omega); exact rfl
                  apply seq_plain; exact do_move rfl; exact rfl
                  apply seq_nil
                  refine lt_sub ?_ (ih2 (j + 1) H5 lo5 _ s5 (by omega) (by omega) i5 (hp.next hfl fun p g hpp hgg => ?_))
                  · (repeat (first | exact sub_nil | apply sub_cons rfl))
                  · rw [List.getElem?_eq_getElem h2] at hpp
                    cases hpp
                    exact ⟨fun _ _ => hb.2, fun _ _ => hb.1⟩
          · simp only [decide_eq_false_iff_not, Int.ofNat_lt] at h2
            have hjl : j = opn.length := by omega
            subst hjl
            apply ct_exit
            apply exit_eq; exact rfl
            apply ct_exit
            apply exit_eq; exact rfl
            apply ct_region
            apply seq_plain; exact do_succ rfl (by omega); exact rfl
            apply seq_plain; exact do_move rfl; exact rfl
            apply seq_nil
            refine lt_sub ?_ (ih' (side + 1) H4 lo4 L4 s4 (by omega) (by omega) i4 ⟨by rw [hl4, hls], hmm, fun u h0 hu hn => ?_⟩ fun k hk => ?_)
            · (repeat (first | exact sub_nil | apply sub_cons rfl))
            · rcases hp.new u h0 hu hn with e | e
              · subst e
                refine ⟨by rw [← hrm]; omega, fun i p g hpp hgg => ?_⟩
                exact hp.done i p g (List.getElem?_eq_some_iff.1 hpp).1 hpp hgg
              · exact e
            · rcases Nat.lt_or_ge k side with h | h
              · exact hp.mono _ (hm1 _ (hon k h))
              · have : k = side := by omega
                subst this; exact hon4
    · simp only [decide_eq_false_iff_not] at h1
      have hs2 : side = 2 := by omega
      subst hs2
      apply ct_exit
      apply exit_eq; exact rfl
      apply ct_seq
      apply ct_region
      apply seq_plain; exact do_assign rfl; exact rfl
      apply seq_nil
      apply ct_ret
      refine fin_puts hi.puts rfl rfl ⟨false, given, room, s, rfl, ⟨hfa.len, hfa.mono, fun _ => ⟨rfl, rfl, hfa, fun p hp => ?_⟩, fun e => (by cases e)⟩, hi.turn⟩
      rw [List.getElem?_eq_getElem hmi] at hp
      cases hp
      exact ⟨hon 0 (by omega), hon 1 (by omega)⟩
end Go.Proofs.YtppflopinmkpgaaDoor
