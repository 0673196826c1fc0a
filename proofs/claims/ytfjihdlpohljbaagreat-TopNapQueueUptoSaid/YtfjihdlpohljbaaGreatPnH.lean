/- The symbolic layer: ranges over functions, calls of yield. -/
import Derived.Test.YtfjihdlpohljbaaGreatSxU
import Derived.Test.YtfjihdlpohljbaaGreatElJ
noncomputable section
namespace Go.Den
structure RoundT (P : Program) (l : Nat) (args : List Value) (H : AHeap) (Q : Value → AHeap → Prop) : Prop where
  out : ∀ (Γ : Ga) (w : World) (i : BI) (args' : List Value), Rel Γ H w → Γ l = some i → All2 (VR Γ) args args' →
    ∃ fn tmps asg body, (Instr.yield i.real ⟨args'⟩).run P w = .ok (.round i.real fn tmps asg body) w ∧ RoundIn Fence.wide 0 P i.real fn tmps asg body w (PostV Γ H w Q)
section
variable {P : Program} {C : Ctx} {rd : Option Nat} {nt : Nat} {ops : Array Oper}
theorem roundT_of {l : Nat} {args : List Value} {H : AHeap} {Q : Value → AHeap → Prop} {r : ALoop} {e : Env} (hown : own l = true) (hb : H.get l = some (.loop r)) (hset : setParams r.params args r.ntm r.env = some e)
    (h1 : CodeT P (some l) r.ntm r.assign ⟨e, [], H⟩ fun x s => x = .normal ∧ ∃ r1, s.heap.get l = some (.loop r1) ∧ r1.state = .ready ∧
      CodeT P (some l) r.ntm r.body ⟨s.env, s.defs, s.heap.put l (.loop { r1 with state := .busy })⟩ fun y s2 => ∃ r2, s2.heap.get l = some (.loop r2) ∧ Q (.bool (jumpOf y).isNone) (s2.heap.put l (.loop { r2 with state := if (jumpOf y).isNone then .ready else .done, pending := jumpOf y }))) : RoundT P l args H Q := by
  refine ⟨fun Γ w i args' hr hi ha => ?_⟩
  obtain ⟨i2, r', hi', ho, hlr⟩ := hr.loopBlk hb
  rw [hi] at hi'; cases hi'
  obtain ⟨he, hlen⟩ := setParams_sound hlr.env ha hset
  have hsz : (⟨args'⟩ : Array Value).size = r'.params.size := by
    have : r'.params.toList.length = r.params.length := by rw [hlr.params]
    simp at this; simp; omega
  refine ⟨_, _, _, _, run_yield ho hsz, roundIn_of_wpIn trivial ?_⟩
  have hfold : (r'.params.zip ⟨args'⟩).foldl (fun tmps (x : Tmp × Value) => tmps.setIfInBounds x.1 x.2) r'.tmps = (r.params.zip args').foldl (fun t (x : Tmp × Value) => t.setIfInBounds x.1 x.2) r'.tmps := by
    rw [← Array.foldl_toList, Array.toList_zip, hlr.params]
  have hs0 : StR Γ ⟨e, [], H⟩ r.ntm { tmps := (r'.params.zip ⟨args'⟩).foldl (fun tmps (x : Tmp × Value) => tmps.setIfInBounds x.1 x.2) r'.tmps, defers := [] } w :=
    ⟨hr, by rw [hfold]; exact he, .nil⟩
  rw [hlr.assign, hlr.body]
  refine wpIn_mono (h1 Γ (Fence.wide.inRound i.real) _ w hs0 ⟨i, hi, rfl⟩) ?_
  rintro ex a₁ w₁ ⟨x, s₁, Γ₁, hx, ⟨rfl, r1, hb1, hready, hl2⟩, hs₁, hadv₁⟩
  cases ex <;> simp only [ExR] at hx
  have hi₁ : Γ₁ l = some i := hadv₁.le hr l i hi
  obtain ⟨i3, r1', hi3, ho1', hlr1⟩ := hs₁.rel.loopBlk hb1
  rw [hi₁] at hi3; cases hi3
  have hst1 : r1'.state = .ready := by rw [hlr1.state]; exact hready
  obtain ⟨p1, p2⟩ := put_loop (r2 := { r1 with state := .busy }) (r2' := { r1' with state := .busy }) hs₁.rel hb1 hown hi₁ ho1'
    ⟨rfl, hlr1.pending, hlr1.env, hlr1.params, hlr1.assign, hlr1.body, hlr1.defers⟩
  refine ⟨_, run_beginRound ho1' hst1, ?_⟩
  refine wpIn_mono (hl2 Γ₁ (Fence.wide.inRound i.real) a₁ _ ⟨p1, hs₁.env, hs₁.defs⟩ ⟨i, hi₁, rfl⟩) ?_
  rintro ex2 a₂ w₂ ⟨y, s₂, Γ₂, hy, ⟨r2, hb2, hq⟩, hs₂, hadv₂⟩
  have hadvA : Adv Γ H w Γ₂ s₂.heap w₂ := (hadv₁.trans p2).trans hadv₂
  have hi₂ : Γ₂ l = some i := hadvA.le hr l i hi
  obtain ⟨i4, r2', hi4, ho2', hlr2⟩ := hs₂.rel.loopBlk hb2
  rw [hi₂] at hi4; cases hi4
  have fin : ∀ jump : Option Code, jump = jumpOf y → ∃ v w', (Instr.endRound i.real jump).run P w₂ = .ok v w' ∧ PostV Γ H w Q (.returned v) w' := by
    intro jump hj
    obtain ⟨q1, q2⟩ := put_loop (r2 := { r2 with state := if (jumpOf y).isNone then .ready else .done, pending := jumpOf y }) (r2' := { r2' with state := if jump.isNone then .ready else .done, pending := jump }) hs₂.rel hb2 hown hi₂ ho2'
      ⟨by rw [hj], hj, hlr2.env, hlr2.params, hlr2.assign, hlr2.body, hlr2.defers⟩
    exact ⟨_, _, run_endRound jump ho2', .bool jump.isNone, .bool (jumpOf y).isNone, _, Γ₂, rfl, hq, q1, hadvA.trans q2, by rw [hj]; exact .bool _⟩
  cases ex2 <;> cases y <;> simp only [ExR] at hy
  · exact fin _ rfl
  · subst hy; exact fin _ rfl
  · exact fin _ rfl
theorem opT_roundT {i : Nat} {o : Oper} (ho : ops[i]? = some o) {s : St} (hw : wantedA o ops s.env = some true) {c : Call} (hc : o.op = .call c) {l : Nat} {args : List Value} (ht : target s.env c = some (.round l args))
    {x : ABlk} (hx : s.heap.get l = some x) {R : Value → AHeap → Prop} (h : RoundT P l args s.heap R) {Q : St → Prop} (hq : ∀ v H', R v H' → ∃ e, putDst nt o v s.env = some e ∧ Q ⟨e, s.defs, H'⟩) : OpT P rd nt ops i s Q := by
  intro Γ F a w hs hF K Qx hK
  unfold wpOpIn
  rw [ho]
  simp only [wanted_sound hs.env o hw, if_true]
  refine ⟨fun f _ => hF.fn f, ?_⟩
  rw [Oper.semAt_eq _ _ _ (by rw [hc]; intro c h; cases h)]
  unfold target at ht
  split at ht
  · rename_i fo hfo
    split at ht
    · cases ht
    · rename_i g x y l' hf hl
      cases ht
      have hv := evalA_sound hs.env hf
      have hargs := evalL_sound hs.env hl
      cases hq' : a.eval fo <;> rw [hq'] at hv <;> cases hv
      rename_i bi p p' q q' ha hb hi
      obtain ⟨fn, tmps, asg, body, hy, hround⟩ := h.out Γ w bi _ hs.rel hi (ha.append hargs)
      have hrun : (execOp a.eval o).run P w = .ok (.round bi.real fn tmps asg body) w := by
        obtain ⟨dst, op, type, pos, after, guard⟩ := o
        simp only at hc; subst hc
        unfold execOp
        simp only [Sem.run_bind, resolve, hfo, hq', Deferred.ofValue, Sem.run_pure, Result.andThen_ok, invoke, map_arr]
        have : ((⟨p'⟩ : Array Value) ++ ⟨c.args.toList.map a.eval⟩) = ⟨p' ++ (c.args.toList.map a.eval)⟩ := by apply Array.toList_inj.1; simp
        rw [this]; exact hy
      rw [hrun, Oper.uponIn_round]
      refine ⟨fun hd => by rw [hF.depth] at hd; simp at hd, ?_⟩
      refine RoundIn.mono (hF.round hround) ?_
      rintro e w' ⟨v', v, H', Γ', rfl, hR', h1, h2, h3⟩
      obtain ⟨e, hp, hQ⟩ := hq v H' hR'
      exact hK _ _ _ _ hQ (put_sound hs (h2.le hs.rel) hp h1 h3) h2 ⟨_, _, ho, rfl⟩
    · cases ht
  · cases ht
end
section
variable {P : Program} {rd : Option Nat} {nt : Nat} {ops : Array Oper} {l : EL} {ds : List Nat} {h : AHeap} {K : St → Prop} {i : Nat} {r : List Oper} {ty : TypeId} {pos : String} {af : Array Edge}
def tgtY (l : EL) (c : Call) : Option (Nat × List Value) := match c.callee with
  | .value f => match ev l f, evs l c.args.toList with
    | some (.func (.yield b) a _), some xs => some (b, a.toList ++ xs)
    | _, _ => none
  | _ => none
theorem targetY_of {c : Call} {b : Nat} {args : List Value} (h : tgtY l c = some (b, args)) : target (ofA l) c = some (.round b args) := by
  unfold tgtY at h
  unfold target
  split at h
  · rename_i fo hf
    simp only [hf, evalA_ofA, evalL_ofA]
    split at h
    · rename_i g a b xs h1 h2
      cases h
      simp only [h1, h2]
    · cases h
  · cases h
theorem seq_yieldQ {d : Nat} {c : Call} {b : Nat} {args : List Value} {x : ABlk} {R : Value → AHeap → Prop} (ht : tgtY l c = some (b, args)) (hx : h.get b = some x) (hc : RoundT P b args h R) (hd : Nat.blt d nt = true)
    (hk : ∀ v h', R v h' → SeqL P rd nt ops r (i + 1) ⟨ofA ((d, v) :: l), ds, h'⟩ K) : SeqL P rd nt ops (⟨some d, .call c, ty, pos, af, none⟩ :: r) i ⟨ofA l, ds, h⟩ K := by
  refine ⟨fun ho => ?_⟩
  refine opT_roundT ho (s := ⟨ofA l, ds, h⟩) rfl rfl (targetY_of ht) hx hc fun v H' hR => ⟨ofA ((d, v) :: l), ?_, (hk v H' hR).out⟩
  simp only [putDst]
  rw [Nat.blt_eq] at hd
  rw [if_pos hd]; rfl
end
/-! ### what rounds may change -/
structure Only (o o' : List Nat) (h h' : AHeap) : Prop where
  old : ∀ b, b ∉ o → (b % 2 = 1 ∨ b < h.fresh) → h'.get b = h.get b
  nw : ∀ b ∈ o', b ∈ o ∨ (b % 2 = 0 ∧ h.fresh ≤ b)
  fresh : h.fresh ≤ h'.fresh
  closed : Closed h'
  low : h'.low ≤ h'.fresh
theorem Only.trans {o o1 o2 : List Nat} {h h1 h2 : AHeap} (a : Only o o1 h h1) (b : Only o1 o2 h1 h2) : Only o o2 h h2 := by
  refine ⟨fun c hc hl => ?_, fun c hc => ?_, Nat.le_trans a.fresh b.fresh, b.closed, b.low⟩
  · rw [b.old c (fun hm => ?_) (by have := a.fresh; omega), a.old c hc hl]
    rcases a.nw c hm with h | h
    · exact hc h
    · omega
  · rcases b.nw c hc with h | h
    · exact a.nw c h
    · exact .inr ⟨h.1, Nat.le_trans a.fresh h.2⟩
theorem hq_base {h : AHeap} (hl : h.low ≤ h.fresh) : HQ h (ext h h.low []) := ⟨fun b => rfl, rfl, (by show h.low = min h.low h.fresh; omega)⟩
theorem tidy_id {H : AHeap} {v : Value} {H1 : AHeap} : Tidy H v H1 v { H1 with low := min H1.low H.low } := by
  intro Γ Γ1 w w' v' hr h1 ha hv
  refine ⟨Γ1, h1.lower _, ?_, hv⟩
  refine ⟨ha.ext, ha.fresh, ha.size, ha.keep, ha.mine, ha.os, ha.tape, ha.output, ⟨Nat.min_le_right _ _, fun b hb => ?_⟩⟩
  refine ha.kept.get b ?_
  rcases hb with hb | ⟨h1, h2⟩
  · exact .inl hb
  · exact .inr ⟨h1, Nat.lt_of_lt_of_le h2 (Nat.min_le_left _ _)⟩
theorem fin_id {P : Program} {H h : AHeap} {Q : Value → AHeap → Prop} {rs : Array ResultVar} {l : EL} {vs : List Value} (hr : resE l rs.toList = some vs) (hq : Q (packA vs) { h with low := min h.low H.low }) : Fin P rs H Q ⟨ofA l, [], h⟩ :=
  ⟨⟨_, vs, packA vs, _, rfl, resE_A hr, tidy_id, hq⟩⟩
end Go.Den
/- Contracts: plans, what is wrong with them. -/
noncomputable section
namespace Go.Proofs.YtfjihdlpohljbaaGreat
open Go Go.Den
set_option maxRecDepth 100000
structure Bz where
  p : Option Addr
  c : Nat
  l : List Int
def bz (x : Bz) : List Value := [.slice x.p x.l.length x.c]
structure BzAt (H : AHeap) (q : Option Addr) (busy : List Bz) : Prop where
  at_ : SlAt H 1 bz q busy
  each : ∀ x ∈ busy, SlAt H 1 i1 x.p x.l
theorem BzAt.ext {H H' : AHeap} {q : Option Addr} {busy : List Bz} (h : BzAt H q busy) (hE : Ext H H') : BzAt H' q busy := ⟨h.at_.ext hE, fun x hx => (h.each x hx).ext hE⟩
end Go.Proofs.YtfjihdlpohljbaaGreat
/- Plans: the plain law.  A search for days in lexicographic order; of more dates than there are matches the later ones are never needed. -/
noncomputable section
namespace Go.Den.Plan
def ext (D : Nat → List Int) (C : List Int → Int → Bool) : Nat → List Int → Option (List Int)
  | 0, out => some out
  | f + 1, out => (D out.length).findSome? fun d => if C out d = true then none else ext D C f (out ++ [d])
def clash (M : Nat → Nat → Bool) (out : List Int) (d : Int) : Bool := (List.range out.length).any fun k => (out[k]?.getD 0 == d) && M out.length k
structure Valid (D : Nat → List Int) (M : Nat → Nat → Bool) (sol : List Int) : Prop where
  day : ∀ (i : Nat) d, sol[i]? = some d → d ∈ D i
  apart : ∀ (i k : Nat) d, k < i → sol[i]? = some d → sol[k]? = some d → M i k = false
section
variable {D D' : Nat → List Int} {M : Nat → Nat → Bool}
theorem Valid.nil : Valid D M [] := ⟨fun i d h => by simp at h, fun i k d _ h => by simp at h⟩
theorem Valid.take {sol : List Int} (h : Valid D M sol) (n : Nat) : Valid D M (sol.take n) := by
  have key : ∀ (i : Nat) d, (sol.take n)[i]? = some d → sol[i]? = some d := fun i d hi => by
    rw [List.getElem?_take] at hi
    split at hi
    · exact hi
    · cases hi
  exact ⟨fun i d hi => h.day i d (key i d hi), fun i k d hk h1 h2 => h.apart i k d hk (key i d h1) (key k d h2)⟩
theorem Valid.snoc {out : List Int} {d : Int} : Valid D M (out ++ [d]) ↔ Valid D M out ∧ d ∈ D out.length ∧ clash M out d = false := by
  constructor
  · intro h
    have h1 : Valid D M out := by
      have := h.take out.length
      rwa [List.take_left] at this
    have hd : (out ++ [d])[out.length]? = some d := List.getElem?_concat_length
    refine ⟨h1, h.day _ _ hd, ?_⟩
    cases hc : clash M out d
    · rfl
    · exfalso
      obtain ⟨k, k1, k2⟩ := clash_iff.1 hc
      have hk := (List.getElem?_eq_some_iff.1 k1).1
      have := h.apart out.length k d hk hd (by rw [List.getElem?_append_left hk]; exact k1)
      rw [this] at k2; cases k2
  · rintro ⟨h1, h2, h3⟩
    have cases' : ∀ (i : Nat) x, (out ++ [d])[i]? = some x → out[i]? = some x ∨ (i = out.length ∧ x = d) := fun i x hi => by
      rcases Nat.lt_trichotomy i out.length with h | h | h
      · rw [List.getElem?_append_left h] at hi; exact .inl hi
      · subst h
        rw [List.getElem?_concat_length] at hi; cases hi; exact .inr ⟨rfl, rfl⟩
      · have := (List.getElem?_eq_some_iff.1 hi).1
        simp at this; omega
    refine ⟨fun i x hi => ?_, fun i k x hk hi hki => ?_⟩
    · rcases cases' i x hi with h | ⟨rfl, rfl⟩
      · exact h1.day i x h
      · exact h2
    · rcases cases' i x hi with h | ⟨rfl, rfl⟩
      · rcases cases' k x hki with h' | ⟨rfl, rfl⟩
        · exact h1.apart i k x hk h h'
        · have := (List.getElem?_eq_some_iff.1 h).1; omega
      · rcases cases' k x hki with h' | ⟨e, _⟩
        · cases hm : M out.length k
          · rfl
          · exfalso
            have := clash_iff.2 ⟨k, h', hm⟩
            rw [h3] at this; cases this
        · omega
theorem Valid.other {sol : List Int} {i : Nat} {x : Int} (h : Valid D M sol) (hx : x ∈ D i) (hn : ∀ k, k ≠ i → sol[k]? ≠ some x) : Valid D M (sol.set i x) := by
  have look : ∀ (j : Nat) d, (sol.set i x)[j]? = some d → (j = i ∧ d = x) ∨ (j ≠ i ∧ sol[j]? = some d) := fun j d hj => by
    by_cases e : j = i
    · subst e
      have hl := (List.getElem?_eq_some_iff.1 hj).1
      rw [List.length_set] at hl
      rw [List.getElem?_set_self hl] at hj
      cases hj; exact .inl ⟨rfl, rfl⟩
    · rw [List.getElem?_set_ne (fun e' => e e'.symm)] at hj
      exact .inr ⟨e, hj⟩
  refine ⟨fun j d hj => ?_, fun j k d hk h1 h2 => ?_⟩
  · rcases look j d hj with ⟨rfl, rfl⟩ | ⟨_, hj⟩
    · exact hx
    · exact h.day j d hj
  · rcases look j d h1 with ⟨rfl, rfl⟩ | ⟨n1, g1⟩
    · rcases look k d h2 with ⟨rfl, _⟩ | ⟨n2, h2⟩
      · omega
      · exact absurd h2 (hn k n2)
    · rcases look k d h2 with ⟨rfl, rfl⟩ | ⟨n2, h2⟩
      · exact absurd g1 (hn j n1)
      · exact h.apart j k d hk g1 h2
end
end Go.Den.Plan
/- Contracts: the reference's search for days. -/
noncomputable section
namespace Go.Proofs.YtfjihdlpohljbaaGreat
open Go Go.Den
set_option maxRecDepth 100000
theorem flat_i1_map : ∀ l : List Int, l.flatMap i1 = l.map I
  | [] => rfl
  | a :: r => by simp only [List.flatMap_cons, flat_i1_map r, List.map_cons]; rfl
end Go.Proofs.YtfjihdlpohljbaaGreat
/- Contracts: the program's search for days. -/
noncomputable section
namespace Go.Proofs.YtfjihdlpohljbaaGreat
open Go Go.Den
set_option maxRecDepth 100000
def ArrAt (H0 h : AHeap) (bo be : Nat) (pa : Option Addr) (ca : Nat) (out : List Int) : Prop := (pa = none ∧ out = [] ∧ ca = 0) ∨ ∃ (ba : Nat) (arr : List Int), pa = some ⟨ba, 0, none⟩ ∧ own ba = true ∧ H0.fresh ≤ ba ∧ ba < h.fresh ∧ ba ≠ bo ∧ ba ≠ be ∧ h.get ba = some (.cells (arr.map I) 1 true false) ∧ arr.length = ca ∧ out.length ≤ ca ∧ arr.take out.length = out
structure ESt (H0 h : AHeap) (bo be : Nat) (fv : Value) (out : List Int) : Prop where
  cl : Closed h
  low : h.low ≤ h.fresh
  ext0 : Ext H0 h
  ge : H0.fresh ≤ h.fresh
  bo1 : own bo = true
  bo2 : H0.fresh ≤ bo
  bo3 : bo < h.fresh
  be2 : H0.fresh ≤ be
  be3 : be < h.fresh
  ne : be ≠ bo
  func : h.get be = some (.cells [fv] 0 false false)
  cell : ∃ pa ca, h.get bo = some (.cells [.slice pa out.length ca] 0 false false) ∧ ArrAt H0 h bo be pa ca out
theorem ESt.next {H0 h X : AHeap} {bo be : Nat} {fv : Value} {out out2 : List Int} (S : ESt H0 h bo be fv out) (hc0 : Closed H0) (hcX : Closed X) (hlX : X.low ≤ X.fresh) (hfX : h.fresh ≤ X.fresh) (hsame : ∀ b y, (b % 2 = 1 ∨ b < H0.fresh ∨ b = be) → h.get b = some y → X.get b = some y)
    (cell : ∃ pa ca, X.get bo = some (.cells [.slice pa out2.length ca] 0 false false) ∧ ArrAt H0 X bo be pa ca out2) : ESt H0 X bo be fv out2 := by
  refine ⟨hcX, hlX, fun b y hb => hsame b y ?_ (S.ext0 b y hb), Nat.le_trans S.ge hfX, S.bo1, S.bo2, Nat.lt_of_lt_of_le S.bo3 hfX, S.be2, Nat.lt_of_lt_of_le S.be3 hfX, S.ne, hsame _ _ (.inr (.inr rfl)) S.func, cell⟩
  rcases hc0.lt hb with h | h
  · exact .inl h
  · exact .inr (.inl h)
theorem ESt.lower {H0 h : AHeap} {bo be x : Nat} {fv : Value} {out : List Int} (S : ESt H0 h bo be fv out) (hx : x ≤ h.fresh) : ESt H0 { h with low := x } bo be fv out :=
  ⟨S.cl, hx, S.ext0, S.ge, S.bo1, S.bo2, S.bo3, S.be2, S.be3, S.ne, S.func, S.cell⟩
theorem ESt.step {H0 h H1 : AHeap} {bo be lo n ca : Nat} {pa : Option Addr} {L : List (Option ABlk)} {fv : Value} {out out2 : List Int} (S : ESt H0 h bo be fv out) (hc0 : Closed H0) (hc1 : Closed H1) (hf : H1.fresh = h.fresh) (hsame : ∀ b y, (b % 2 = 1 ∨ b < H0.fresh ∨ b = be) → h.get b = some y → H1.get b = some y) (hn : n = out2.length)
    (har : ArrAt H0 (ext (H1.put bo (.cells [.slice pa n ca] 0 false false)) lo L) bo be pa ca out2) : ESt H0 (ext (H1.put bo (.cells [.slice pa n ca] 0 false false)) lo L) bo be fv out2 := by
  have hlt : bo < H1.fresh := by rw [hf]; exact S.bo3
  have hcp := closed_put (x := .cells [.slice pa n ca] 0 false false) hc1 S.bo1 hlt
  have hfp : (H1.put bo (.cells [.slice pa n ca] 0 false false)).fresh = h.fresh := hf
  have hge : h.fresh ≤ (ext (H1.put bo (.cells [.slice pa n ca] 0 false false)) lo L).fresh := by rw [ext_fresh, ← hfp]; exact nb_ge _
  refine S.next hc0 (ext_closed hcp) (by show min lo (H1.put bo (.cells [.slice pa n ca] 0 false false)).fresh ≤ _; rw [hfp]; omega) hge (fun b y hb hy => ext_get_old hcp (put_ne S.bo1 (fun e => ?_) (hsame b y hb hy))) ⟨pa, ca, by rw [← hn]; exact ext_get_old hcp (put_same S.bo1), har⟩
  have h1 := own_iff.1 S.bo1
  have h2 := S.bo2
  have h3 := S.ne
  omega
theorem _root_.Go.Den.HQ.trans {a b c : AHeap} (h : HQ a b) (k : HQ b c) : HQ a c := ⟨fun x => (h.get x).trans (k.get x), h.next.trans k.next, h.low.trans k.low⟩
end Go.Proofs.YtfjihdlpohljbaaGreat
/- Contracts: the program's Postpone. -/
noncomputable section
namespace Go.Den
section
variable {P : Program} {rd : Option Nat} {nt : Nat} {ops : Array Oper} {l : EL} {ds : List Nat} {K : St → Prop} {i : Nat} {r : List Oper} {ty : TypeId} {pos : String} {af : Array Edge} {H : AHeap} {lo : Nat}
end
namespace Plan
end Plan
end Go.Den
namespace Go.Proofs.YtfjihdlpohljbaaGreat
open Go Go.Den
set_option maxRecDepth 100000
def InB (H : AHeap) (L : List (Option ABlk)) (x : Bz) : Prop := (x.p = none ∧ x.l = []) ∨ ∃ (k : Nat) (dl : List Int) (n : Nat), L[k]? = some (some (.cells (dl.map I) 1 true false)) ∧ dl ≠ [] ∧ x.p = some ⟨nb H k, 0, none⟩ ∧ x.l = dl.take n
theorem InB.keep {H : AHeap} {L L' : List (Option ABlk)} {x : Bz} (h : InB H L x) (hk : ∀ (k : Nat) (dl : List Int), dl ≠ [] → L[k]? = some (some (.cells (dl.map I) 1 true false)) → L'[k]? = some (some (.cells (dl.map I) 1 true false))) : InB H L' x := by
  rcases h with h | ⟨k, dl, n, h1, h2, h3, h4⟩
  · exact .inl h
  · exact .inr ⟨k, dl, n, hk k dl h2 h1, h2, h3, h4⟩
end Go.Proofs.YtfjihdlpohljbaaGreat
