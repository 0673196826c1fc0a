/- Contracts: lists with a further booking; whether a booking fits. -/
import Derived.Test.YtfjihdlpohljbaaGreatHpB
import Derived.Test.YtfjihdlpohljbaaGreatSxM
import Derived.Test.YtfjihdlpohljbaaGreatPrL
import Derived.Test.YtfjihdlpohljbaaGreatSxQ
import Derived.Test.YtfjihdlpohljbaaGreatSxK
import Derived.Test.YtfjihdlpohljbaaGreatSvL
noncomputable section
namespace Go.Den
structure BlkS (H : AHeap) (p : Option Addr) : Prop where
  out : ∀ x, p = some x → x.spot = none ∧ ∃ cs z s ro, H.get x.block = some (.cells cs z s ro)
theorem BlkS.nil {H : AHeap} : BlkS H none := ⟨fun _ h => by cases h⟩
theorem BlkS.ext {H H' : AHeap} {p : Option Addr} (h : BlkS H p) (hE : Ext H H') : BlkS H' p := ⟨fun x hx => by
  obtain ⟨h1, cs, z, s, ro, h2⟩ := h.out x hx
  exact ⟨h1, cs, z, s, ro, hE _ _ h2⟩⟩
theorem BlkS.at_ {H : AHeap} {b o : Nat} {cs : List Value} {z : Nat} {s ro : Bool} (h : H.get b = some (.cells cs z s ro)) : BlkS H (some ⟨b, o, none⟩) := ⟨fun x hx => by
  cases hx; exact ⟨rfl, cs, z, s, ro, h⟩⟩
theorem wv_of {α : Type} {H : AHeap} {w c : Nat} {f : α → List Value} {p : Option Addr} {l : List α} (hf : ∀ x, (f x).length = w) (hs : SlAt H w f p l) (hb : BlkS H p) : Wv H w f (.slice p l.length c) l := by
  refine ⟨p, c, rfl, ?_⟩
  by_cases hne : l = []
  · subst hne
    cases p with
    | none => rfl
    | some x =>
      obtain ⟨h1, cs, z, s, ro, h2⟩ := hb.out x rfl
      obtain ⟨b, o, sp⟩ := x
      simp only at h1 h2
      subst h1
      simp [srcCells, h2, sliceIn]
  · obtain ⟨b, o, cs, z, s, ro, rfl, h2, h3⟩ := hs.out hne
    have := part_from (f := f) (w := w) (l := l) (o := o) (c := l.length + 1) (i := 0) hf h3 (by omega)
    simp only [Nat.sub_zero, List.drop_zero] at this
    have e : fromO o (l.length + 1) 0 w = o := by unfold fromO; rw [if_neg (by omega)]; omega
    rw [e] at this
    simp only [srcCells, h2]
    exact this
section
variable {P : Program} {l : EL} {h : AHeap}
theorem do_appendY {args : Array Operand} {tys : Array TypeId} {st : TypeId} {r : List TypeId} {b o n c m by' z b0 : Nat} {ag k ro ro0 : Bool} {e : TypeId} {zs cs new : List Value} (ha : evs l args.toList = some [.slice (some ⟨b0, 0, none⟩) 0 0, .slice (some ⟨b, o, none⟩) n c]) (hty : tys.toList = st :: st :: r)
    (hs : selOf P st = some (m, ag)) (he : (tyOf P st).map (·.und) = some (.slice e)) (hz : zerOf P e = some zs) (hby : (tyOf P e).map (·.bytes) = some by')
    (hb : h.get b = some (.cells cs z k ro)) (hn : sliceIn cs o (n * m) = some new) (h0 : h.get b0 = some (.cells [] m false ro0)) (h1 : (2 * (0 + n) + 1000) * by' ≤ 2 ^ 48) (h2 : by' ≠ 0) (h3 : m ≠ 0) (h4 : 0 < n) :
    Does P l (.call ⟨.builtin .append, args, tys⟩) h (.slice (some ⟨h.fresh, 0, none⟩) n n) (h.add (.cells new m true false)) := by
  have := do_append2 (P := P) (l := l) (h := h) (sl := 0) (old := []) ha hty hs he hz hby hb hn h0 (by simp) h1 h2 h3 h4
  simpa using this
end
end Go.Den
namespace Go.Proofs.YtfjihdlpohljbaaGreat
open Go Go.Den
set_option maxRecDepth 100000
theorem app_bd {n : Nat} (h : n < 1000000000) : (2 * (0 + n) + 1000) * 48 ≤ 2 ^ 48 := by omega
theorem clone0_c {H : AHeap} : Ret Tryz.prog 54 [.slice none 0 0] H (.slice none 0 0) H := by
  refine fn_start Tryz.func54 rfl rfl rfl fun hc => ?_
  apply ct_seq
  apply ct_region
  apply seq_plain; exact do_assign rfl; exact rfl
  apply seq_nil
  iterate 2 (apply ct_seq)
  apply ct_region
  apply seq_plain; exact do_move rfl; exact rfl
  apply seq_plain; exact do_eqlNilS rfl rfl rfl; exact rfl
  apply seq_nil
  refine ct_cond_t rfl rfl ?_
  apply ct_seq
  apply ct_region
  apply seq_plain; exact do_assign rfl; exact rfl
  apply seq_nil
  apply ct_ret
  exact fin_flat hc rfl rfl ⟨rfl, rfl⟩
set_option maxHeartbeats 4000000 in
theorem clone_c {H : AHeap} {x : Addr} {c : Nat} {l : List Bk} (hs : SlAt H 4 bk (some x) l) (hb : BlkS H (some x)) (hn : l.length < 1000000) :
    Ret Tryz.prog 54 [.slice (some x) l.length c] H (.slice (some ⟨H.fresh, 0, none⟩) l.length l.length) (H.add (.cells (l.flatMap bk) 4 (decide (l ≠ [])) false)) := by
  refine fn_start Tryz.func54 rfl rfl rfl fun hc => ?_
  have hw : ∀ lo L, Wv (ext H lo L) 4 bk (.slice (some x) l.length c) l := fun lo L => wv_of bk_len (hs.ext (ext_Ext hc)) (hb.ext (ext_Ext hc))
  apply ct_seq
  apply ct_region
  apply seq_plain; exact do_assign rfl; exact rfl
  apply seq_nil
  iterate 2 (apply ct_seq)
  apply ct_region
  apply seq_plain; exact do_move rfl; exact rfl
  apply seq_plain; exact do_eqlNilS rfl rfl rfl; exact rfl
  apply seq_nil
  refine ct_cond_f rfl rfl ?_
  apply ct_skip
  apply ct_seq
  apply ct_region
  apply seq_newS; exact do_buildSlice rfl rfl rfl rfl rfl rfl rfl; exact rfl
  apply seq_plain; exact do_move rfl; exact rfl
  by_cases hne : l = []
  · subst hne
    refine seq_plain (do_appNil rfl rfl rfl rfl rfl rfl (hw _ _) (fun a e => by cases e; rfl) (Nat.le_refl _) (Nat.le_of_ble_eq_true rfl) (Nat.ne_of_beq_eq_false rfl) (Nat.ne_of_beq_eq_false rfl)) rfl ?_
    apply seq_plain; exact do_assign rfl; exact rfl
    apply seq_nil
    apply ct_ret
    refine fin_one hc rfl (k := 0) rfl rfl (v := .slice (some ⟨H.fresh, 0, none⟩) 0 0) ?_ ⟨rfl, rfl⟩
    simp [packA, renV, renOf_one (H := H) ⟨own_iff.1 (nb_own 0), nb_ge 0⟩]
  · obtain ⟨b', o', c', cs, z, k, ro, e1, hg, hsl⟩ := (hw H.fresh []).blk (by omega) bk_len hne
    have hg : ∀ lo L, (ext H lo L).get b' = some (.cells cs z k ro) := fun lo L => by
      obtain ⟨b2, o2, cs2, z2, s2, r2, e2, hg2, _⟩ := hs.out hne
      rw [e2] at e1
      cases e1
      have h3 := ext_get_old (lo := H.fresh) (L := []) hc hg2
      rw [hg] at h3
      rw [h3]
      exact ext_get_old hc hg2
    injection e1 with e1 _ e3
    cases e1
    subst e3
    refine seq_newS (do_appendY rfl rfl rfl rfl rfl rfl (hg _ _) hsl (ext_get_new rfl) (app_bd (by omega)) (Nat.ne_of_beq_eq_false rfl) (Nat.ne_of_beq_eq_false rfl) (List.length_pos_iff.2 hne)) rfl ?_
    apply seq_plain; exact do_assign rfl; exact rfl
    apply seq_nil
    apply ct_ret
    have ed : decide (l ≠ []) = true := decide_eq_true hne
    rw [ed]
    refine fin_one hc rfl (k := 1) rfl ?_ (v := .slice (some ⟨H.fresh, 0, none⟩) l.length l.length) ?_ ⟨rfl, rfl⟩
    · exact flat_all (fun _ => rfl) l
    · simp [packA, renV, renOf_one (H := H) ⟨own_iff.1 (nb_own 1), nb_ge 1⟩]
end Go.Proofs.YtfjihdlpohljbaaGreat
