/- Contracts: fixtures, what is wrong with a list of them. -/
import Derived.Test.YtiggikjbknoohaaGreatDoorFnB
noncomputable section
namespace Go.Proofs.YtiggikjbknoohaaGreatDoor
open Go Go.Den
set_option maxRecDepth 10000

theorem guard169 : Tryz.prog.eqGuardType Tryz.prog.depth 169 = false := by decide +kernel
theorem ty169 : ∃ ti e ei, (ctxOf Tryz.prog).ty.get 169 = some ti ∧ ti.und = .array 2 e ∧ (ctxOf Tryz.prog).ty.get e = some ei ∧ ei.size = 1 ∧ isAggD ei.und = false ∧ ei.und = .int .i64 :=
  ⟨_, 3, _, ctx_ty rfl, rfl, ctx_ty rfl, rfl, rfl, rfl⟩
theorem eqV169 (a b c d : Int) : eqV Tryz.prog (ctxOf Tryz.prog) 20 169 (Pr a b) (Pr c d) = some ((a == c) && (b == d)) := by
  obtain ⟨ti, e, ei, h1, h2, h3, h4, h5, h6⟩ := ty169
  have one : ∀ x y : Int, eqV Tryz.prog (ctxOf Tryz.prog) 19 e (I x) (I y) = some (x == y) := by
    intro x y
    simp only [eqV, h3, h6]; simp
  have p0 : ∀ x y : Int, partA ei [I x, I y] (0 * 1) = some (I x) := by intro x y; simp [partA, h5]
  have p1 : ∀ x y : Int, partA ei [I x, I y] (1 * 1) = some (I y) := by intro x y; simp [partA, h5]
  rw [eqV]
  simp only [h1, h2, h3]
  simp only [show List.range 2 = [0, 1] from rfl, eqIs, h4, p0, p1, one]
  cases (a == c) <;> cases (b == d) <;> rfl
theorem eqA169 (a b c d : Int) : eqA Tryz.prog (ctxOf Tryz.prog) 169 (Pr a b) (Pr c d) = some ((a == c) && (b == d)) := by
  obtain ⟨ti, e, ei, h1, h2, h3, h4, h5, h6⟩ := ty169
  unfold eqA
  simp only [h1, h2, guard169, eqV169]
  simp [flatC]
def prV (p : Int × Int) : Value := Pr p.1 p.2
theorem keyPr : KeyOk Tryz.prog 169 prV := by
  refine ⟨fun a => ?_, fun a => ?_, fun a b => ?_, fun a => ?_⟩
  · obtain ⟨ti, e, ei, h1, h2, h3, h4, h5, h6⟩ := ty169
    have one : ∀ x : Int, chkV (ctxOf Tryz.prog) 19 e (I x) = true := by
      intro x
      simp only [chkV, h3, h6]
    have p0 : ∀ x y : Int, partA ei [I x, I y] (0 * 1) = some (I x) := by intro x y; simp [partA, h5]
    have p1 : ∀ x y : Int, partA ei [I x, I y] (1 * 1) = some (I y) := by intro x y; simp [partA, h5]
    have hv : chkV (ctxOf Tryz.prog) 20 169 (Pr a.1 a.2) = true := by
      rw [chkV]
      simp only [h1, h2, h3]
      simp only [show List.range 2 = [0, 1] from rfl, chkIs, h4, p0, p1, one]
      rfl
    simp [keyOk, prV, flatC, Value.cells]
    exact hv
  · simp [prV, flatC, Value.cells]
  · rw [prV, prV, eqV169]
    congr 1
    obtain ⟨a1, a2⟩ := a
    obtain ⟨b1, b2⟩ := b
    by_cases h1 : a1 = b1 <;> by_cases h2 : a2 = b2 <;> simp [h1, h2]
  · simp [sameKey, prV, eqFlats, eqFlat]

structure Fx where
  day : Int
  home : Int
  away : Int
def fx (x : Fx) : List Value := [I x.day, I x.home, I x.away]

theorem indexFunc262 {H : AHeap} {q : Option Addr} {c g : Nat} {caps : List Value} {l : List Fx} {p : Fx → Bool} (hs : SlAt H 3 fx q l) (hn : l.length < 1000000000000)
    (hp : ∀ x ∈ l, ∀ H', Ext H H' → Ret Tryz.prog g (.agg ⟨fx x⟩ :: caps) H' (.bool (p x)) H') :
    Ret Tryz.prog 262 [.slice q l.length c, .func (.func g) #[] ⟨caps⟩] H (I (idxOf p l 0)) H := by
  refine fn_start Tryz.func262 rfl rfl rfl fun hc => ?_
  apply ct_seq
  apply ct_region
  apply seq_plain; exact do_assign rfl; exact rfl
  apply seq_nil
  apply ct_seq
  apply ct_seq
  apply ct_region
  apply seq_plain; exact do_move rfl; exact rfl
  apply seq_plain; exact do_lenS rfl rfl rfl; exact rfl
  apply seq_plain; exact do_move rfl; exact rfl
  apply seq_nil
  apply ct_block
  apply ct_loop
  refine lt_up (fun i => [(0, .slice q l.length c), (1, .func (.func g) #[] ⟨caps⟩), (6, .slice q l.length c), (7, I l.length), (8, I i)]) (fun i => ∀ j (hj : j < l.length), j < i → p l[j] = false) l.length (fun i hi hJ ih => ?_) 0 (by omega) (by intros; omega) (by repeat (first | exact sub_nil | apply sub_cons rfl))
  apply ct_seq
  apply ct_region
  apply seq_plain; exact do_binInt rfl rfl rfl trivial; exact rfl
  apply seq_nil
  apply ct_seq
  refine ct_cond rfl (fun hb => ?_) (fun hb => ?_)
  · simp only [decide_eq_true_eq, Int.ofNat_lt] at hb
    obtain ⟨b, o, cs, z, s, ro, rfl, hg, hw⟩ := hs.out (by intro e; rw [e] at hb; simp at hb)
    apply ct_skip
    apply ct_seq
    apply ct_block
    apply ct_seq
    apply ct_region
    apply seq_plain; exact do_move rfl; exact rfl
    apply seq_plain; exact do_assign rfl; exact rfl
    apply seq_nil
    apply ct_seq
    apply ct_region
    apply seq_plain; exact do_move rfl; exact rfl
    apply seq_plain; exact do_move rfl; exact rfl
    apply seq_plain; exact do_move rfl; exact rfl
    apply seq_plain; exact do_indexAddrS rfl rfl rfl (by exact idx_nat (by omega)); exact rfl
    apply seq_plain; exact do_load rfl (by exact ext_get_old (by assumption) (by assumption)) rfl (by exact pt_sl (by assumption) (by omega)); exact rfl
    apply seq_call (ht := rfl); exact hp _ (List.getElem_mem hb) _ (ext_Ext hc); exact rfl
    apply seq_nil
    refine ct_cond rfl (fun h2 => ?_) (fun h2 => ?_)
    · apply ct_seq
      apply ct_region
      apply seq_plain; exact do_move rfl; exact rfl
      apply seq_plain; exact do_assign rfl; exact rfl
      apply seq_nil
      apply ct_ret
      refine fin_flat hc rfl rfl ⟨?_, rfl⟩
      rw [idxOf_at hb 0 hJ h2]; simp [packA]
    · apply ct_skip
      apply ct_region
      apply seq_plain; exact do_succ rfl (by omega); exact rfl
      apply seq_plain; exact do_move rfl; exact rfl
      apply seq_nil
      refine lt_sub ?_ (ih (i + 1) (by omega) (by omega) fun j hj hji => ?_)
      · (repeat (first | exact sub_nil | apply sub_cons rfl))
      · rcases Nat.lt_or_ge j i with h | h
        · exact hJ j hj h
        · have : j = i := by omega
          subst this; exact h2
  · simp only [decide_eq_false_iff_not, Int.ofNat_lt] at hb
    apply ct_exit
    apply exit_eq; exact rfl
    apply ct_seq
    apply ct_region
    apply seq_plain; exact do_assign rfl; exact rfl
    apply seq_nil
    apply ct_ret
    refine fin_flat hc rfl rfl ⟨?_, rfl⟩
    rw [idxOf_none 0 fun j hj => hJ j hj (by omega)]; rfl

theorem containsFunc243 {H : AHeap} {q : Option Addr} {c g : Nat} {caps : List Value} {l : List Fx} {p : Fx → Bool} (hs : SlAt H 3 fx q l) (hn : l.length < 1000000000000)
    (hp : ∀ x ∈ l, ∀ H', Ext H H' → Ret Tryz.prog g (.agg ⟨fx x⟩ :: caps) H' (.bool (p x)) H') :
    Ret Tryz.prog 243 [.slice q l.length c, .func (.func g) #[] ⟨caps⟩] H (.bool (l.any p)) H := by
  refine fn_start Tryz.func243 rfl rfl rfl fun hc => ?_
  apply ct_seq
  apply ct_region
  apply seq_plain; exact do_assign rfl; exact rfl
  apply seq_nil
  apply ct_seq
  apply ct_region
  apply seq_plain; exact do_move rfl; exact rfl
  apply seq_plain; exact do_move rfl; exact rfl
  apply seq_call (ht := rfl); exact indexFunc262 (l := l) (p := p) (hs.ext (ext_Ext hc)) hn fun x hx H' h' => hp x hx H' ((ext_Ext hc).trans h'); exact rfl
  apply seq_plain; exact do_binInt rfl rfl rfl trivial; exact rfl
  apply seq_plain; exact do_assign rfl; exact rfl
  apply seq_nil
  apply ct_ret
  refine fin_flat hc rfl rfl ⟨?_, rfl⟩
  rw [← idxOf_any l 0]; rfl

theorem has208 {H : AHeap} {q : Option Addr} {c g : Nat} {caps : List Value} {l : List Fx} {p : Fx → Bool} (hs : SlAt H 3 fx q l) (hn : l.length < 1000000000000)
    (hp : ∀ x ∈ l, ∀ H', Ext H H' → Ret Tryz.prog g (.agg ⟨fx x⟩ :: caps) H' (.bool (p x)) H') :
    Ret Tryz.prog 208 [.slice q l.length c, .func (.func g) #[] ⟨caps⟩] H (.bool (l.any p)) H := by
  refine fn_start Tryz.func208 rfl rfl rfl fun hc => ?_
  apply ct_seq
  apply ct_region
  apply seq_plain; exact do_assign rfl; exact rfl
  apply seq_nil
  apply ct_seq
  apply ct_region
  apply seq_plain; exact do_move rfl; exact rfl
  apply seq_plain; exact do_move rfl; exact rfl
  apply seq_call (ht := rfl); exact containsFunc243 (l := l) (p := p) (hs.ext (ext_Ext hc)) hn fun x hx H' h' => hp x hx H' ((ext_Ext hc).trans h'); exact rfl
  apply seq_plain; exact do_assign rfl; exact rfl
  apply seq_nil
  apply ct_ret
  exact fin_flat hc rfl rfl ⟨rfl, rfl⟩

theorem closure209 {H : AHeap} {x y : Fx} {b1 b2 z1 z2 : Nat} {s1 s2 r1 r2 : Bool} (h1 : H.get b1 = some (.cells (fx y) z1 s1 r1)) (h2 : H.get b2 = some (.cells [I y.home, I y.away] z2 s2 r2)) :
    Ret Tryz.prog 209 [.agg ⟨fx x⟩, .pointer (some ⟨b1, 0, none⟩), .pointer (some ⟨b2, 0, none⟩)] H (.bool ((x.day == y.day) && meetsL y.home y.away x.home x.away)) H := by
  unfold fx at h1 ⊢
  refine fn_start Tryz.func209 rfl rfl rfl fun hc => ?_
  apply ct_seq
  apply ct_region
  apply seq_newP; exact do_box rfl rfl rfl; exact rfl
  apply seq_plain; exact do_assign rfl; exact rfl
  apply seq_nil
  apply ct_seq
  apply ct_region
  apply seq_plain; exact do_fieldAddr rfl rfl; exact rfl
  apply seq_plain; exact do_load rfl (by exact ext_get_new rfl) rfl (by exact rfl); exact rfl
  apply seq_plain; exact do_fieldAddr rfl rfl; exact rfl
  apply seq_plain; exact do_load rfl (by exact ext_get_old (by assumption) (by assumption)) rfl (by exact rfl); exact rfl
  apply seq_plain; exact do_binInt rfl rfl rfl trivial; exact rfl
  apply seq_plain; exact do_move rfl; exact rfl
  refine seq_gsplit rfl rfl (fun hb => ?_) (fun hb => ?_)
  · apply seq_guard (hd := rfl) (hl := rfl); exact do_load rfl (by exact ext_get_old (by assumption) (by assumption)) rfl (by exact rfl); exact rfl
    apply seq_guard (hd := rfl) (hl := rfl); exact do_fieldAddr rfl rfl; exact rfl
    apply seq_guard (hd := rfl) (hl := rfl); exact do_load rfl (by exact ext_get_new rfl) rfl (by exact rfl); exact rfl
    apply seq_guard (hd := rfl) (hl := rfl); exact do_fieldAddr rfl rfl; exact rfl
    apply seq_guard (hd := rfl) (hl := rfl); exact do_load rfl (by exact ext_get_new rfl) rfl (by exact rfl); exact rfl
    apply seq_guard (hd := rfl) (hl := rfl); exact do_build rfl rfl rfl rfl; exact rfl
    apply seq_gcall (hg := rfl) (hl := rfl) (ht := rfl); exact meets111; exact rfl
    apply seq_plain; exact do_pick_t rfl rfl; exact rfl
    apply seq_plain; exact do_assign rfl; exact rfl
    apply seq_nil
    apply ct_ret
    refine fin_flat hc rfl rfl ⟨?_, rfl⟩
    rw [hb]; rfl
  · apply seq_passed (hd := rfl) (hl := rfl) (hb := rfl); exact rfl
    apply seq_passed (hd := rfl) (hl := rfl) (hb := rfl); exact rfl
    apply seq_passed (hd := rfl) (hl := rfl) (hb := rfl); exact rfl
    apply seq_passed (hd := rfl) (hl := rfl) (hb := rfl); exact rfl
    apply seq_passed (hd := rfl) (hl := rfl) (hb := rfl); exact rfl
    apply seq_passed (hd := rfl) (hl := rfl) (hb := rfl); exact rfl
    apply seq_passed (hd := rfl) (hl := rfl) (hb := rfl); exact rfl
    apply seq_plain; exact do_pick_f rfl rfl; exact rfl
    apply seq_plain; exact do_assign rfl; exact rfl
    apply seq_nil
    apply ct_ret
    refine fin_flat hc rfl rfl ⟨?_, rfl⟩
    rw [hb]; rfl

theorem closure210 {H : AHeap} {x y : Fx} {b2 z2 : Nat} {s2 r2 : Bool} (h2 : H.get b2 = some (.cells [I y.home, I y.away] z2 s2 r2)) :
    Ret Tryz.prog 210 [.agg ⟨fx x⟩, .pointer (some ⟨b2, 0, none⟩)] H (.bool ((y.home == x.home) && (y.away == x.away))) H := by
  unfold fx
  refine fn_start Tryz.func210 rfl rfl rfl fun hc => ?_
  apply ct_seq
  apply ct_region
  apply seq_newP; exact do_box rfl rfl rfl; exact rfl
  apply seq_plain; exact do_assign rfl; exact rfl
  apply seq_nil
  apply ct_seq
  apply ct_region
  apply seq_plain; exact do_load rfl (by exact ext_get_old (by assumption) (by assumption)) rfl (by exact rfl); exact rfl
  apply seq_plain; exact do_fieldAddr rfl rfl; exact rfl
  apply seq_plain; exact do_load rfl (by exact ext_get_new rfl) rfl (by exact rfl); exact rfl
  apply seq_plain; exact do_fieldAddr rfl rfl; exact rfl
  apply seq_plain; exact do_load rfl (by exact ext_get_new rfl) rfl (by exact rfl); exact rfl
  apply seq_plain; exact do_build rfl rfl rfl rfl; exact rfl
  apply seq_plain; exact do_eql rfl rfl trivial (eqA169 _ _ _ _); exact rfl
  apply seq_plain; exact do_assign rfl; exact rfl
  apply seq_nil
  apply ct_ret
  exact fin_flat hc rfl rfl ⟨rfl, rfl⟩
