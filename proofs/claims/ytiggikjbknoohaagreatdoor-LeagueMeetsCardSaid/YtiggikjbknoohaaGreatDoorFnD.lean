/- Contracts: what is wrong with a list of fixtures. -/
import Derived.Test.YtiggikjbknoohaaGreatDoorFnC
noncomputable section
namespace Go.Proofs.YtiggikjbknoohaaGreatDoor
open Go Go.Den
set_option maxRecDepth 10000

def clashL (x y : Fx) : Bool := (y.day == x.day) && meetsL x.home x.away y.home y.away
def twiceL (x y : Fx) : Bool := (x.home == y.home) && (x.away == y.away)
def errAt (n : Int) (pre : List Fx) (x : Fx) : Int := firstL [whenL (outL x.day 0 48) 3, pairL n x.home x.away, whenL (pre.any (clashL x)) 29, whenL (pre.any (twiceL x)) 17]
def topL (n : Int) (l : List Fx) : Int := firstL [whenL (outL n 2 24) 3, whenL (decide ((l.length : Int) > 600)) 5]
def errI (n : Int) (l : List Fx) (i : Nat) : Int := match l[i]? with
  | some x => errAt n (l.take i) x
  | none => 0
def restL (n : Int) (l : List Fx) : Int := firstL ((List.range l.length).map (errI n l))
def chkL (n : Int) (l : List Fx) : Int := if topL n l = 0 then restL n l else topL n l
theorem errI_at {n : Int} {l : List Fx} {i : Nat} (h : i < l.length) : errI n l i = errAt n (l.take i) l[i] := by simp [errI, h]
theorem restL_at {n : Int} {l : List Fx} {i : Nat} (hi : i < l.length) (h : ∀ j, j < i → errI n l j = 0) (hne : errI n l i ≠ 0) : restL n l = errI n l i := by
  have := firstL_at (l := (List.range l.length).map (errI n l)) (i := i) (by simpa using hi) (fun j hj hji => by simpa using h j hji) (by simpa using hne)
  rw [restL, this]; simp
theorem restL_none {n : Int} {l : List Fx} (h : ∀ j, j < l.length → errI n l j = 0) : restL n l = 0 :=
  firstL_none fun j hj => by
    have := h j (by simpa using hj)
    simpa using this

theorem has208T {H : AHeap} {q : Option Addr} {c g i : Nat} {caps : List Value} {l : List Fx} {p : Fx → Bool} (hs : SlAt H 3 fx q l) (hn : l.length < 1000000000000) (hi : i ≤ l.length)
    (hp : ∀ x ∈ l, ∀ H', Ext H H' → Ret Tryz.prog g (.agg ⟨fx x⟩ :: caps) H' (.bool (p x)) H') :
    Ret Tryz.prog 208 [.slice q i c, .func (.func g) #[] ⟨caps⟩] H (.bool ((l.take i).any p)) H := by
  have := has208 (c := c) (g := g) (caps := caps) (p := p) (hs.take i) (by rw [List.length_take]; omega) (fun x hx => hp x (List.mem_of_mem_take hx))
  rw [List.length_take, Nat.min_eq_left hi] at this
  exact this

theorem checkList137 {H : AHeap} {n : Int} {q : Option Addr} {c : Nat} {l : List Fx} (hs : SlAt H 3 fx q l) (hn : l.length < 1000000000000) (hcap : l.length ≤ c) (hq0 : q = none → l.length = 0 ∧ c = 0) (hqs : ∀ a, q = some a → a.spot = none) :
    Ret Tryz.prog 137 [I n, .slice q l.length c] H (I (chkL n l)) H := by
  refine fn_start Tryz.func137 rfl rfl rfl fun hc => ?_
  apply ct_seq
  apply ct_region
  apply seq_plain; exact do_assign rfl; exact rfl
  apply seq_nil
  apply ct_seq
  apply ct_seq
  apply ct_region
  apply seq_plain; exact do_move rfl; exact rfl
  apply seq_call (ht := rfl); exact checkTeams145; exact rfl
  apply seq_plain; exact do_move rfl; exact rfl
  apply seq_plain; exact do_lenS rfl rfl rfl; exact rfl
  apply seq_plain; exact do_binInt rfl rfl rfl trivial; exact rfl
  apply seq_call (ht := rfl); exact when85; exact rfl
  apply seq_newS; exact do_buildSlice rfl rfl rfl rfl rfl rfl rfl; exact rfl
  apply seq_call (ht := rfl); exact first84 (l := [_, _]) (slAt_map (ext_get_new rfl)) (by simp); exact rfl
  apply seq_plain; exact do_assign rfl; exact rfl
  apply seq_nil
  apply ct_seq
  apply ct_region
  apply seq_plain; exact do_move rfl; exact rfl
  apply seq_plain; exact do_binInt rfl rfl rfl trivial; exact rfl
  apply seq_nil
  refine ct_cond rfl (fun hb => ?_) (fun hb => ?_)
  · have hb : topL n l ≠ 0 := by simpa [topL] using hb
    apply ct_seq
    apply ct_region
    apply seq_plain; exact do_move rfl; exact rfl
    apply seq_plain; exact do_assign rfl; exact rfl
    apply seq_nil
    apply ct_ret
    refine fin_flat hc rfl rfl ⟨?_, rfl⟩
    simp only [chkL]; rw [if_neg hb]; rfl
  · have hb : topL n l = 0 := by simpa [topL] using hb
    apply ct_skip
    apply ct_seq
    apply ct_seq
    apply ct_region
    apply seq_plain; exact do_move rfl; exact rfl
    apply seq_plain; exact do_lenS rfl rfl rfl; exact rfl
    apply seq_plain; exact do_move rfl; exact rfl
    apply seq_nil
    apply ct_block
    apply ct_loop
    refine lt_upB hc (fun i => [(0, I n), (1, .slice q l.length c), (23, .slice q l.length c), (24, I l.length), (25, I i)]) (fun i => ∀ j, j < i → errI n l j = 0) l.length (fun i h lo hc' hE0 hi hJ ih => ?_) 0 (by omega) (by intros; omega) (by repeat (first | exact sub_nil | apply sub_cons rfl))
    have hE := (ext_Ext hc).trans hE0
    clear hE0
    apply ct_seq
    apply ct_region
    apply seq_plain; exact do_binInt rfl rfl rfl trivial; exact rfl
    apply seq_nil
    apply ct_seq
    refine ct_cond rfl (fun h1 => ?_) (fun h1 => ?_)
    · simp only [decide_eq_true_eq, Int.ofNat_lt] at h1
      obtain ⟨b, o, cs, z, s, ro, rfl, hg, hw⟩ := hs.out (by intro e; rw [e] at h1; simp at h1)
      have hg := hE _ _ hg
      apply ct_skip
      apply ct_seq
      apply ct_block
      apply ct_seq
      apply ct_region
      apply seq_plain; exact do_move rfl; exact rfl
      apply seq_plain; exact do_indexAddrS rfl rfl rfl (by exact idx_nat (by omega)); exact rfl
      apply seq_plain; exact do_load rfl (by exact ext_get_old (by assumption) (by assumption)) rfl (by exact pt_sl (by assumption) (by omega)); exact rfl
      apply seq_newP; exact do_alloc rfl rfl; exact rfl
      apply seq_plain; exact do_assign rfl; exact rfl
      apply seq_putC (hc := by assumption); rotate_left; exact do_store rfl rfl (by exact ext_get_new rfl) rfl rfl (nb_own _); rotate_left; exact Nat.le_of_ble_eq_true rfl
      apply ct_seq
      apply ct_region
      apply seq_plain; exact do_fieldAddr rfl rfl; exact rfl
      apply seq_plain; exact do_load rfl (by exact ext_get_new rfl) rfl (by exact rfl); exact rfl
      apply seq_plain; exact do_fieldAddr rfl rfl; exact rfl
      apply seq_plain; exact do_load rfl (by exact ext_get_new rfl) rfl (by exact rfl); exact rfl
      apply seq_plain; exact do_build rfl rfl rfl rfl; exact rfl
      apply seq_newP; exact do_alloc rfl rfl; exact rfl
      apply seq_putC (hc := by assumption); rotate_left; exact do_store rfl rfl (by exact ext_get_new rfl) rfl rfl (nb_own _); rotate_left; exact Nat.le_of_ble_eq_true rfl
      apply ct_seq
      apply ct_region
      apply seq_plain; exact do_move rfl; exact rfl
      apply seq_plain; exact do_move rfl; exact rfl
      apply seq_plain; exact do_sliceTo rfl rfl rfl (fun e => by cases e) (fun _ e => by cases e; rfl) (i := i) (by omega); exact rfl
      apply seq_plain; exact do_makeFunc rfl rfl; exact rfl
      apply seq_call (ht := rfl); exact has208T (l := l) (p := clashL l[i]) ((hs.ext hE).ext (ext_Ext hc')) hn (by omega) fun x _ H' h' => closure209 (h' _ _ (ext_get_new rfl)) (h' _ _ (ext_get_new rfl)); exact rfl
      apply seq_plain; exact do_assign rfl; exact rfl
      apply seq_nil
      apply ct_seq
      apply ct_region
      apply seq_plain; exact do_move rfl; exact rfl
      apply seq_plain; exact do_move rfl; exact rfl
      apply seq_plain; exact do_sliceTo rfl rfl rfl (fun e => by cases e) (fun _ e => by cases e; rfl) (i := i) (by omega); exact rfl
      apply seq_plain; exact do_makeFunc rfl rfl; exact rfl
      apply seq_call (ht := rfl); exact has208T (l := l) (p := twiceL l[i]) ((hs.ext hE).ext (ext_Ext hc')) hn (by omega) fun x _ H' h' => closure210 (h' _ _ (ext_get_new rfl)); exact rfl
      apply seq_plain; exact do_assign rfl; exact rfl
      apply seq_nil
      apply ct_seq
      apply ct_draw (by assumption); decide +kernel
      apply sd_plain (hfree := rfl); intro _; exact do_fieldAddr rfl rfl; exact rfl
      apply sd_look (hfree := rfl); exact do_load rfl (by exact ext_get_new rfl) rfl (by exact rfl); exact rfl
      apply sd_call (ht := rfl); exact within89; exact rfl
      apply sd_look (hfree := rfl); exact do_load rfl (by exact ext_get_new rfl) rfl (by exact rfl); exact rfl
      apply sd_plain (hfree := rfl); intro _; exact do_move rfl; exact rfl
      apply sd_call (ht := rfl); exact check162; exact rfl
      apply sd_plain (hfree := rfl); intro _; exact do_move rfl; exact rfl
      apply sd_call (ht := rfl); exact when85; exact rfl
      apply sd_plain (hfree := rfl); intro _; exact do_move rfl; exact rfl
      apply sd_call (ht := rfl); exact when85; exact rfl
      apply sd_newS (hfree := rfl); exact do_buildSlice rfl rfl rfl rfl rfl rfl rfl; exact rfl
      apply sd_callM (ht := rfl) (hw := rfl); decide +kernel; exact first84 (l := [_, _, _, _]) (slAt_map (ext_get_new rfl)) (by simp); exact rfl
      apply sd_plain (hfree := rfl); intro _; exact do_assign rfl; exact rfl
      apply sd_nil
      apply ct_seq
      apply ct_region
      apply seq_plain; exact do_move rfl; exact rfl
      apply seq_plain; exact do_binInt rfl rfl rfl trivial; exact rfl
      apply seq_nil
      refine ct_cond rfl (fun h2 => ?_) (fun h2 => ?_)
      · have h2 : errI n l i ≠ 0 := by rw [errI_at h1]; simpa [errAt] using h2
        apply ct_seq
        apply ct_region
        apply seq_plain; exact do_move rfl; exact rfl
        apply seq_plain; exact do_assign rfl; exact rfl
        apply seq_nil
        apply ct_ret
        refine fin_flatB hc hc' hE rfl rfl ⟨?_, rfl⟩
        simp only [chkL]; rw [if_pos hb, restL_at h1 hJ h2, errI_at h1]; rfl
      · have h2 : errI n l i = 0 := by rw [errI_at h1]; simpa [errAt] using h2
        apply ct_skip
        apply ct_region
        apply seq_plain; exact do_succ rfl (by omega); exact rfl
        apply seq_plain; exact do_move rfl; exact rfl
        apply seq_nil
        refine lt_sub ?_ (ih (i + 1) _ _ _ hc' (.refl _) (by omega) (by omega) fun j hji => ?_)
        · (repeat (first | exact sub_nil | apply sub_cons rfl))
        · rcases Nat.lt_or_ge j i with h | h
          · exact hJ j h
          · have : j = i := by omega
            subst this; exact h2
    · simp only [decide_eq_false_iff_not, Int.ofNat_lt] at h1
      apply ct_exit
      apply exit_eq; exact rfl
      apply ct_seq
      apply ct_region
      apply seq_plain; exact do_assign rfl; exact rfl
      apply seq_nil
      apply ct_ret
      refine fin_flatB hc hc' hE rfl rfl ⟨?_, rfl⟩
      simp only [chkL]; rw [if_pos hb, restL_none fun j hj => hJ j (by omega)]; rfl
