/- The symbolic layer: ranges over functions, calls of yield. -/
import Derived.Test.YtflbffhahoblfaaGreatDoorSxP
import Derived.Test.YtflbffhahoblfaaGreatDoorProg
import Derived.Test.YtflbffhahoblfaaGreatDoorSxA
import Derived.KernelRfl
noncomputable section
namespace Go.Den
structure RoundT (P : Program) (l : Nat) (args : List Value) (H : AHeap) (Q : Value → AHeap → Prop) : Prop where
  out : ∀ (Γ : Ga) (w : World) (i : BI) (args' : List Value), Rel Γ H w → Γ l = some i → All2 (VR Γ) args args' →
    ∃ fn tmps asg body, (Instr.yield i.real ⟨args'⟩).run P w = .ok (.round i.real fn tmps asg body) w ∧ RoundIn Fence.wide 0 P i.real fn tmps asg body w (PostV Γ H w Q)
section
variable {P : Program} {C : Ctx} {rd : Option Nat} {nt : Nat} {ops : Array Oper}
theorem roundT_of {l : Nat} {args : List Value} {H : AHeap} {Q : Value → AHeap → Prop} {r : ALoop} {e : Env} (hown : own l = true) (hb : H.get l = some (.loop r)) (hset : setParams r.params args r.ntm r.env = some e)
    (h1 : CodeT P (some l) r.ntm r.assign ⟨e, [], H⟩ fun x s => x = .normal ∧ ∃ r1, s.heap.get l = some (.loop r1) ∧ r1.state = .ready ∧
      CodeT P (some l) r.ntm r.body ⟨s.env, s.defs, s.heap.put l (.loop { r1 with state := .busy })⟩ fun y s2 => ∃ r2, s2.heap.get l = some (.loop r2) ∧ Q (.bool (jumpOf y).isNone) (s2.heap.put l (.loop { r2 with state := if (jumpOf y).isNone then .ready else .done, pending := jumpOf y }))) : RoundT P l args H Q := by
  refine ⟨fun Γ w i args' hr hi ha => ?_⟩
  obtain ⟨i2, r', hi', ho, hlr⟩ := hr.loopBlk hb
  rw [hi] at hi'; cases hi'
  obtain ⟨he, hlen⟩ := setParams_sound hlr.env ha hset
  have hsz : (⟨args'⟩ : Array Value).size = r'.params.size := by
    have : r'.params.toList.length = r.params.length := by rw [hlr.params]
    simp at this; simp; omega
  refine ⟨_, _, _, _, run_yield ho hsz, roundIn_of_wpIn trivial ?_⟩
  have hfold : (r'.params.zip ⟨args'⟩).foldl (fun tmps (x : Tmp × Value) => tmps.setIfInBounds x.1 x.2) r'.tmps = (r.params.zip args').foldl (fun t (x : Tmp × Value) => t.setIfInBounds x.1 x.2) r'.tmps := by
    rw [← Array.foldl_toList, Array.toList_zip, hlr.params]
  have hs0 : StR Γ ⟨e, [], H⟩ r.ntm { tmps := (r'.params.zip ⟨args'⟩).foldl (fun tmps (x : Tmp × Value) => tmps.setIfInBounds x.1 x.2) r'.tmps, defers := [] } w :=
    ⟨hr, by rw [hfold]; exact he, .nil⟩
  rw [hlr.assign, hlr.body]
  refine wpIn_mono (h1 Γ (Fence.wide.inRound i.real) _ w hs0 ⟨i, hi, rfl⟩) ?_
  rintro ex a₁ w₁ ⟨x, s₁, Γ₁, hx, ⟨rfl, r1, hb1, hready, hl2⟩, hs₁, hadv₁⟩
  cases ex <;> simp only [ExR] at hx
  have hi₁ : Γ₁ l = some i := hadv₁.le hr l i hi
  obtain ⟨i3, r1', hi3, ho1', hlr1⟩ := hs₁.rel.loopBlk hb1
  rw [hi₁] at hi3; cases hi3
  have hst1 : r1'.state = .ready := by rw [hlr1.state]; exact hready
  obtain ⟨p1, p2⟩ := put_loop (r2 := { r1 with state := .busy }) (r2' := { r1' with state := .busy }) hs₁.rel hb1 hown hi₁ ho1'
    ⟨rfl, hlr1.pending, hlr1.env, hlr1.params, hlr1.assign, hlr1.body, hlr1.defers⟩
  refine ⟨_, run_beginRound ho1' hst1, ?_⟩
  refine wpIn_mono (hl2 Γ₁ (Fence.wide.inRound i.real) a₁ _ ⟨p1, hs₁.env, hs₁.defs⟩ ⟨i, hi₁, rfl⟩) ?_
  rintro ex2 a₂ w₂ ⟨y, s₂, Γ₂, hy, ⟨r2, hb2, hq⟩, hs₂, hadv₂⟩
  have hadvA : Adv Γ H w Γ₂ s₂.heap w₂ := (hadv₁.trans p2).trans hadv₂
  have hi₂ : Γ₂ l = some i := hadvA.le hr l i hi
  obtain ⟨i4, r2', hi4, ho2', hlr2⟩ := hs₂.rel.loopBlk hb2
  rw [hi₂] at hi4; cases hi4
  have fin : ∀ jump : Option Code, jump = jumpOf y → ∃ v w', (Instr.endRound i.real jump).run P w₂ = .ok v w' ∧ PostV Γ H w Q (.returned v) w' := by
    intro jump hj
    obtain ⟨q1, q2⟩ := put_loop (r2 := { r2 with state := if (jumpOf y).isNone then .ready else .done, pending := jumpOf y }) (r2' := { r2' with state := if jump.isNone then .ready else .done, pending := jump }) hs₂.rel hb2 hown hi₂ ho2'
      ⟨by rw [hj], hj, hlr2.env, hlr2.params, hlr2.assign, hlr2.body, hlr2.defers⟩
    exact ⟨_, _, run_endRound jump ho2', .bool jump.isNone, .bool (jumpOf y).isNone, _, Γ₂, rfl, hq, q1, hadvA.trans q2, by rw [hj]; exact .bool _⟩
  cases ex2 <;> cases y <;> simp only [ExR] at hy
  · exact fin _ rfl
  · subst hy; exact fin _ rfl
  · exact fin _ rfl
theorem opT_roundT {i : Nat} {o : Oper} (ho : ops[i]? = some o) {s : St} (hw : wantedA o ops s.env = some true) {c : Call} (hc : o.op = .call c) {l : Nat} {args : List Value} (ht : target s.env c = some (.round l args))
    {x : ABlk} (hx : s.heap.get l = some x) {R : Value → AHeap → Prop} (h : RoundT P l args s.heap R) {Q : St → Prop} (hq : ∀ v H', R v H' → ∃ e, putDst nt o v s.env = some e ∧ Q ⟨e, s.defs, H'⟩) : OpT P rd nt ops i s Q := by
  intro Γ F a w hs hF K Qx hK
  unfold wpOpIn
  rw [ho]
  simp only [wanted_sound hs.env o hw, if_true]
  refine ⟨fun f _ => hF.fn f, ?_⟩
  rw [Oper.semAt_eq _ _ _ (by rw [hc]; intro c h; cases h)]
  unfold target at ht
  split at ht
  · rename_i fo hfo
    split at ht
    · cases ht
    · rename_i g x y l' hf hl
      cases ht
      have hv := evalA_sound hs.env hf
      have hargs := evalL_sound hs.env hl
      cases hq' : a.eval fo <;> rw [hq'] at hv <;> cases hv
      rename_i bi p p' q q' ha hb hi
      obtain ⟨fn, tmps, asg, body, hy, hround⟩ := h.out Γ w bi _ hs.rel hi (ha.append hargs)
      have hrun : (execOp a.eval o).run P w = .ok (.round bi.real fn tmps asg body) w := by
        obtain ⟨dst, op, type, pos, after, guard⟩ := o
        simp only at hc; subst hc
        unfold execOp
        simp only [Sem.run_bind, resolve, hfo, hq', Deferred.ofValue, Sem.run_pure, Result.andThen_ok, invoke, map_arr]
        have : ((⟨p'⟩ : Array Value) ++ ⟨c.args.toList.map a.eval⟩) = ⟨p' ++ (c.args.toList.map a.eval)⟩ := by apply Array.toList_inj.1; simp
        rw [this]; exact hy
      rw [hrun, Oper.uponIn_round]
      refine ⟨fun hd => by rw [hF.depth] at hd; simp at hd, ?_⟩
      refine RoundIn.mono (hF.round hround) ?_
      rintro e w' ⟨v', v, H', Γ', rfl, hR', h1, h2, h3⟩
      obtain ⟨e, hp, hQ⟩ := hq v H' hR'
      exact hK _ _ _ _ hQ (put_sound hs (h2.le hs.rel) hp h1 h3) h2 ⟨_, _, ho, rfl⟩
    · cases ht
  · cases ht
end
section
variable {P : Program} {rd : Option Nat} {nt : Nat} {ops : Array Oper} {l : EL} {ds : List Nat} {h : AHeap} {K : St → Prop} {i : Nat} {r : List Oper} {ty : TypeId} {pos : String} {af : Array Edge}
def tgtY (l : EL) (c : Call) : Option (Nat × List Value) := match c.callee with
  | .value f => match ev l f, evs l c.args.toList with
    | some (.func (.yield b) a _), some xs => some (b, a.toList ++ xs)
    | _, _ => none
  | _ => none
theorem targetY_of {c : Call} {b : Nat} {args : List Value} (h : tgtY l c = some (b, args)) : target (ofA l) c = some (.round b args) := by
  unfold tgtY at h
  unfold target
  split at h
  · rename_i fo hf
    simp only [hf, evalA_ofA, evalL_ofA]
    split at h
    · rename_i g a b xs h1 h2
      cases h
      simp only [h1, h2]
    · cases h
  · cases h
theorem seq_yieldQ {d : Nat} {c : Call} {b : Nat} {args : List Value} {x : ABlk} {R : Value → AHeap → Prop} (ht : tgtY l c = some (b, args)) (hx : h.get b = some x) (hc : RoundT P b args h R) (hd : Nat.blt d nt = true)
    (hk : ∀ v h', R v h' → SeqL P rd nt ops r (i + 1) ⟨ofA ((d, v) :: l), ds, h'⟩ K) : SeqL P rd nt ops (⟨some d, .call c, ty, pos, af, none⟩ :: r) i ⟨ofA l, ds, h⟩ K := by
  refine ⟨fun ho => ?_⟩
  refine opT_roundT ho (s := ⟨ofA l, ds, h⟩) rfl rfl (targetY_of ht) hx hc fun v H' hR => ⟨ofA ((d, v) :: l), ?_, (hk v H' hR).out⟩
  simp only [putDst]
  rw [Nat.blt_eq] at hd
  rw [if_pos hd]; rfl
end
/-! ### what rounds may change -/
structure Only (o o' : List Nat) (h h' : AHeap) : Prop where
  old : ∀ b, b ∉ o → (b % 2 = 1 ∨ b < h.fresh) → h'.get b = h.get b
  nw : ∀ b ∈ o', b ∈ o ∨ (b % 2 = 0 ∧ h.fresh ≤ b)
  fresh : h.fresh ≤ h'.fresh
  closed : Closed h'
  low : h'.low ≤ h'.fresh
theorem Only.trans {o o1 o2 : List Nat} {h h1 h2 : AHeap} (a : Only o o1 h h1) (b : Only o1 o2 h1 h2) : Only o o2 h h2 := by
  refine ⟨fun c hc hl => ?_, fun c hc => ?_, Nat.le_trans a.fresh b.fresh, b.closed, b.low⟩
  · rw [b.old c (fun hm => ?_) (by have := a.fresh; omega), a.old c hc hl]
    rcases a.nw c hm with h | h
    · exact hc h
    · omega
  · rcases b.nw c hc with h | h
    · exact a.nw c h
    · exact .inr ⟨h.1, Nat.le_trans a.fresh h.2⟩
theorem hq_base {h : AHeap} (hl : h.low ≤ h.fresh) : HQ h (ext h h.low []) := ⟨fun b => rfl, rfl, (by show h.low = min h.low h.fresh; omega)⟩
theorem tidy_id {H : AHeap} {v : Value} {H1 : AHeap} : Tidy H v H1 v { H1 with low := min H1.low H.low } := by
  intro Γ Γ1 w w' v' hr h1 ha hv
  refine ⟨Γ1, h1.lower _, ?_, hv⟩
  refine ⟨ha.ext, ha.fresh, ha.size, ha.keep, ha.mine, ha.os, ha.tape, ha.output, ⟨Nat.min_le_right _ _, fun b hb => ?_⟩⟩
  refine ha.kept.get b ?_
  rcases hb with hb | ⟨h1, h2⟩
  · exact .inl hb
  · exact .inr ⟨h1, Nat.lt_of_lt_of_le h2 (Nat.min_le_left _ _)⟩
theorem fin_id {P : Program} {H h : AHeap} {Q : Value → AHeap → Prop} {rs : Array ResultVar} {l : EL} {vs : List Value} (hr : resE l rs.toList = some vs) (hq : Q (packA vs) { h with low := min h.low H.low }) : Fin P rs H Q ⟨ofA l, [], h⟩ :=
  ⟨⟨_, vs, packA vs, _, rfl, resE_A hr, tidy_id, hq⟩⟩
end Go.Den
/- The program's context is sound: the evaluator may be used. -/
namespace Go.Proofs
open Go Go.Den
instance pcTryz : PC Tryz.prog := ⟨ctxOk (by kernel_rfl) (by kernel_rfl)⟩
end Go.Proofs
/- Contracts of small functions: errors, numbers in bounds, searches in lists. -/
noncomputable section
namespace Go.Proofs.YtflbffhahoblfaaGreatDoor
open Go Go.Den
set_option maxRecDepth 10000
abbrev I (n : Int) : Value := .int .i64 n
def whenL (b : Bool) (e : Int) : Int := if b then e else 0
def firstL (l : List Int) : Int := (l.find? (fun e => decide (e ≠ 0))).getD 0
def outL (n a b : Int) : Bool := decide (n < a ∨ n > b)
abbrev i1 (x : Int) : List Value := [I x]
theorem when85 {H : AHeap} {b : Bool} {e : Int} : Ret Tryz.prog 44 [.bool b, I e] H (I (whenL b e)) H := by
  refine fn_start Tryz.func44 rfl rfl rfl fun hc => ?_
  apply ct_seq
  apply ct_region
  apply seq_plain; exact do_assign rfl; exact rfl
  apply seq_nil
  iterate 2 (apply ct_seq)
  apply ct_region
  apply seq_plain; exact do_move rfl; exact rfl
  apply seq_nil
  refine ct_cond rfl (fun hb => ?_) (fun hb => ?_)
  · apply ct_seq
    apply ct_region
    apply seq_plain; exact do_move rfl; exact rfl
    apply seq_plain; exact do_assign rfl; exact rfl
    apply seq_nil
    apply ct_ret
    refine fin_flat hc rfl rfl ⟨?_, rfl⟩
    rw [hb]; rfl
  · apply ct_skip
    apply ct_seq
    apply ct_region
    apply seq_plain; exact do_assign rfl; exact rfl
    apply seq_nil
    apply ct_ret
    refine fin_flat hc rfl rfl ⟨?_, rfl⟩
    rw [hb]; rfl
theorem when23 {H : AHeap} {b : Bool} {e : Int} : Ret Tryz.prog 12 [.bool b, I e] H (I (whenL b e)) H := by
  refine fn_start Tryz.func12 rfl rfl rfl fun hc => ?_
  apply ct_seq
  apply ct_region
  apply seq_plain; exact do_assign rfl; exact rfl
  apply seq_nil
  iterate 2 (apply ct_seq)
  apply ct_region
  apply seq_plain; exact do_move rfl; exact rfl
  apply seq_nil
  refine ct_cond rfl (fun hb => ?_) (fun hb => ?_)
  · apply ct_seq
    apply ct_region
    apply seq_plain; exact do_move rfl; exact rfl
    apply seq_plain; exact do_assign rfl; exact rfl
    apply seq_nil
    apply ct_ret
    refine fin_flat hc rfl rfl ⟨?_, rfl⟩
    rw [hb]; rfl
  · apply ct_skip
    apply ct_seq
    apply ct_region
    apply seq_plain; exact do_assign rfl; exact rfl
    apply seq_nil
    apply ct_ret
    refine fin_flat hc rfl rfl ⟨?_, rfl⟩
    rw [hb]; rfl
theorem within89 {H : AHeap} {n a b : Int} : Ret Tryz.prog 64 [I n, I a, I b] H (I (whenL (outL n a b) 3)) H := by
  refine fn_start Tryz.func64 rfl rfl rfl fun hc => ?_
  apply ct_seq
  apply ct_region
  apply seq_plain; exact do_assign rfl; exact rfl
  apply seq_nil
  apply ct_seq
  apply ct_region
  iterate 2 (apply seq_plain; exact do_move rfl; exact rfl)
  apply seq_plain; exact do_binInt rfl rfl rfl trivial; exact rfl
  apply seq_plain; exact do_move rfl; exact rfl
  refine seq_gsplit rfl rfl (fun hb => ?_) (fun hb => ?_)
  · apply seq_passed (hd := rfl) (hl := rfl) (hb := rfl); exact rfl
    iterate 2 (apply seq_passed (hd := rfl) (hl := rfl) (hb := rfl); exact rfl)
    apply seq_plain; exact do_pick_t rfl rfl; exact rfl
    apply seq_call (ht := rfl); exact when85; exact rfl
    apply seq_plain; exact do_assign rfl; exact rfl
    apply seq_nil
    apply ct_ret
    refine fin_flat hc rfl rfl ⟨?_, rfl⟩
    simp at hb
    simp [packA, whenL, outL, hb]
  · apply seq_guard (hd := rfl) (hl := rfl); exact do_move rfl; exact rfl
    apply seq_guard (hd := rfl) (hl := rfl); exact do_move rfl; exact rfl
    apply seq_guard (hd := rfl) (hl := rfl); exact do_binInt rfl rfl rfl trivial; exact rfl
    apply seq_plain; exact do_pick_f rfl rfl; exact rfl
    apply seq_call (ht := rfl); exact when85; exact rfl
    apply seq_plain; exact do_assign rfl; exact rfl
    apply seq_nil
    apply ct_ret
    refine fin_flat hc rfl rfl ⟨?_, rfl⟩
    simp at hb
    have : ¬ n < a := by omega
    simp [packA, whenL, outL, this]
theorem outside24 {H : AHeap} {n a b : Int} : Ret Tryz.prog 47 [I n, I a, I b] H (.bool (outL n a b)) H := by
  refine fn_start Tryz.func47 rfl rfl rfl fun hc => ?_
  apply ct_seq
  apply ct_region
  apply seq_plain; exact do_assign rfl; exact rfl
  apply seq_nil
  apply ct_seq
  apply ct_region
  iterate 2 (apply seq_plain; exact do_move rfl; exact rfl)
  apply seq_plain; exact do_binInt rfl rfl rfl trivial; exact rfl
  apply seq_plain; exact do_move rfl; exact rfl
  refine seq_gsplit rfl rfl (fun hb => ?_) (fun hb => ?_)
  · apply seq_passed (hd := rfl) (hl := rfl) (hb := rfl); exact rfl
    iterate 2 (apply seq_passed (hd := rfl) (hl := rfl) (hb := rfl); exact rfl)
    apply seq_plain; exact do_pick_t rfl rfl; exact rfl
    apply seq_plain; exact do_assign rfl; exact rfl
    apply seq_nil
    apply ct_ret
    refine fin_flat hc rfl rfl ⟨?_, rfl⟩
    simp at hb
    simp [packA, outL, hb]
  · apply seq_guard (hd := rfl) (hl := rfl); exact do_move rfl; exact rfl
    apply seq_guard (hd := rfl) (hl := rfl); exact do_move rfl; exact rfl
    apply seq_guard (hd := rfl) (hl := rfl); exact do_binInt rfl rfl rfl trivial; exact rfl
    apply seq_plain; exact do_pick_f rfl rfl; exact rfl
    apply seq_plain; exact do_assign rfl; exact rfl
    apply seq_nil
    apply ct_ret
    refine fin_flat hc rfl rfl ⟨?_, rfl⟩
    simp at hb
    have : ¬ n < a := by omega
    simp [packA, outL, this]
theorem firstL_at {l : List Int} {i : Nat} (hi : i < l.length) (h : ∀ j (hj : j < l.length), j < i → l[j] = 0) (hne : l[i] ≠ 0) : firstL l = l[i] := by
  have : l.find? (fun e => decide (e ≠ 0)) = some l[i] := by
    rw [List.find?_eq_some_iff_getElem]
    refine ⟨by simpa using hne, i, hi, rfl, fun j hj => ?_⟩
    simp [h j (by omega) hj]
  simp only [firstL, this]; rfl
theorem firstL_none {l : List Int} (h : ∀ j (hj : j < l.length), l[j] = 0) : firstL l = 0 := by
  have : l.find? (fun e => decide (e ≠ 0)) = none := by
    rw [List.find?_eq_none]
    intro x hx
    obtain ⟨j, hj, rfl⟩ := List.getElem_of_mem hx
    simp [h j hj]
  simp only [firstL, this]; rfl
theorem first84 {H : AHeap} {q : Option Addr} {c : Nat} {l : List Int} (hs : SlAt H 1 i1 q l) (hn : l.length < 1000000000000) :
    Ret Tryz.prog 37 [.slice q l.length c] H (I (firstL l)) H := by
  refine fn_start Tryz.func37 rfl rfl rfl fun hc => ?_
  apply ct_seq
  apply ct_region
  apply seq_plain; exact do_assign rfl; exact rfl
  apply seq_nil
  iterate 2 (apply ct_seq)
  apply ct_region
  apply seq_plain; exact do_move rfl; exact rfl
  apply seq_plain; exact do_lenS rfl rfl rfl; exact rfl
  apply seq_plain; exact do_move rfl; exact rfl
  apply seq_nil
  apply ct_block
  apply ct_loop
  refine lt_up (fun i => [(5, .slice q l.length c), (6, I l.length), (7, I i)]) (fun i => ∀ j (hj : j < l.length), j < i → l[j] = 0) l.length (fun i hi hJ ih => ?_) 0 (by omega) (by intros; omega) (by repeat (first | exact sub_nil | apply sub_cons rfl))
  apply ct_seq
  apply ct_region
  apply seq_plain; exact do_binInt rfl rfl rfl trivial; exact rfl
  apply seq_nil
  apply ct_seq
  refine ct_cond rfl (fun hb => ?_) (fun hb => ?_)
  · simp only [decide_eq_true_eq, Int.ofNat_lt] at hb
    obtain ⟨b, o, cs, z, s, ro, rfl, hg, hw⟩ := hs.out (by intro e; rw [e] at hb; simp at hb)
    apply ct_skip
    apply ct_seq
    apply ct_block
    apply ct_seq
    apply ct_region
    apply seq_plain; exact do_indexAddrS rfl rfl rfl (by exact idx_nat (by omega)); exact rfl
    apply seq_plain; exact do_load rfl (by exact ext_get_old (by assumption) (by assumption)) rfl (by exact pt_sl0 (by assumption) (by omega)); exact rfl
    apply seq_plain; exact do_assign rfl; exact rfl
    apply seq_nil
    apply ct_seq
    apply ct_region
    apply seq_plain; exact do_move rfl; exact rfl
    apply seq_plain; exact do_binInt rfl rfl rfl trivial; exact rfl
    apply seq_nil
    refine ct_cond rfl (fun h2 => ?_) (fun h2 => ?_)
    · apply ct_seq
      apply ct_region
      apply seq_plain; exact do_move rfl; exact rfl
      apply seq_plain; exact do_assign rfl; exact rfl
      apply seq_nil
      apply ct_ret
      refine fin_flat hc rfl rfl ⟨?_, rfl⟩
      rw [firstL_at hb hJ (by simpa using h2)]; rfl
    · apply ct_skip
      apply ct_region
      apply seq_plain; exact do_succ rfl (by omega); exact rfl
      apply seq_plain; exact do_move rfl; exact rfl
      apply seq_nil
      refine lt_sub ?_ (ih (i + 1) (by omega) (by omega) fun j hj hji => ?_)
      · (repeat (first | exact sub_nil | apply sub_cons rfl))
      · rcases Nat.lt_or_ge j i with h | h
        · exact hJ j hj h
        · have : j = i := by omega
          subst this; simpa using h2
  · simp only [decide_eq_false_iff_not, Int.ofNat_lt] at hb
    apply ct_exit
    apply exit_eq; exact rfl
    apply ct_seq
    apply ct_region
    apply seq_plain; exact do_assign rfl; exact rfl
    apply seq_nil
    apply ct_ret
    refine fin_flat hc rfl rfl ⟨?_, rfl⟩
    rw [firstL_none fun j hj => hJ j hj (by omega)]; rfl
end Go.Proofs.YtflbffhahoblfaaGreatDoor
