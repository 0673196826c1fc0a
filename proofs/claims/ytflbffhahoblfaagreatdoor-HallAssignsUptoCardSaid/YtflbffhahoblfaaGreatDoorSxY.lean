/- The symbolic layer: a range over a function. -/
import Derived.Test.YtflbffhahoblfaaGreatDoorFnA
import Derived.Test.YtflbffhahoblfaaGreatDoorSxM
noncomputable section
namespace Go.Den
/-! ### heaps that say the same but for the least block that was changed -/
structure LQ (h h' : AHeap) : Prop where
  get : ∀ b, h.get b = h'.get b
  next : h.next = h'.next
theorem LQ.refl (h : AHeap) : LQ h h := ⟨fun _ => rfl, rfl⟩
theorem LQ.symm {h h' : AHeap} (q : LQ h h') : LQ h' h := ⟨fun b => (q.get b).symm, q.next.symm⟩
theorem LQ.trans {h h1 h2 : AHeap} (q : LQ h h1) (p : LQ h1 h2) : LQ h h2 := ⟨fun b => (q.get b).trans (p.get b), q.next.trans p.next⟩
theorem LQ.fresh {h h' : AHeap} (q : LQ h h') : h.fresh = h'.fresh := by simp only [AHeap.fresh, q.next]
theorem HQ.lq {h h' : AHeap} (q : HQ h h') : LQ h h' := ⟨q.get, q.next⟩
theorem LQ.hq {h h' : AHeap} (q : LQ h h') (hl : h.low = h'.low) : HQ h h' := ⟨q.get, q.next, hl⟩
theorem LQ.rel {h h' : AHeap} (q : LQ h h') {Γ : Ga} {w : World} (r : Rel Γ h w) : Rel Γ h' w :=
  (HQ.mk (h := { h with low := h'.low }) (h' := h') q.get q.next rfl).rel (r.lower _)
theorem LQ.closed {h h' : AHeap} (q : LQ h h') (hc : Closed h) : Closed h' := fun b h1 h2 => by rw [← q.get]; exact hc b h1 (by rw [q.fresh]; exact h2)
theorem LQ.mine {h h' : AHeap} (q : LQ h h') {Γ : Ga} {r : Nat} (m : Mine Γ h r) : Mine Γ h' r := by
  obtain ⟨b, x, i, h1, h2⟩ := m
  exact ⟨b, x, i, by rw [← q.get]; exact h1, h2⟩
theorem LQ.adv {h h' h2 : AHeap} (q : LQ h h') (hl : h'.low ≤ h.low) {Γ Γ' : Ga} {w w' : World} (a : Adv Γ h' w Γ' h2 w') : Adv Γ h w Γ' h2 w' :=
  ⟨fun b hb => a.ext b (by rw [← q.fresh]; exact hb), by rw [q.fresh]; exact a.fresh, a.size, fun r hr hm => a.keep r hr fun m => hm (q.symm.mine m), fun r hm => (a.mine r hm).imp id q.symm.mine, a.os, a.tape, a.output, ⟨Nat.le_trans a.kept.low hl, fun b hb => by rw [a.kept.get b (by rw [← q.fresh]; exact hb), q.get]⟩⟩
theorem Adv.toR {Γ Γ' : Ga} {H H' H2 : AHeap} {w w' : World} (q : HQ H' H2) (a : Adv Γ H w Γ' H' w') : Adv Γ H w Γ' H2 w' :=
  ⟨a.ext, by rw [← q.fresh]; exact a.fresh, a.size, a.keep, fun r hm => a.mine r (q.symm.mine hm), a.os, a.tape, a.output, ⟨by rw [← q.low]; exact a.kept.low, fun b hb => by rw [← q.get]; exact a.kept.get b (by rw [q.low]; exact hb)⟩⟩
theorem Tidy.to {H : AHeap} {v v2 : Value} {H1 H1' H2 : AHeap} (q : HQ H1 H1') (h : Tidy H v H1' v2 H2) : Tidy H v H1 v2 H2 := by
  intro Γ Γ1 w w' v' hr h1 ha hv
  exact h Γ Γ1 w w' v' hr (q.rel h1) (ha.toR q) hv
theorem RoundT.low {P : Program} {l : Nat} {args : List Value} {h h' : AHeap} {Q : Value → AHeap → Prop} (q : LQ h h') (hl : h'.low ≤ h.low) (p : RoundT P l args h' Q) : RoundT P l args h Q := by
  refine ⟨fun Γ w i args' hr hi ha => ?_⟩
  obtain ⟨fn, tmps, asg, body, h1, h2⟩ := p.out Γ w i args' (q.rel hr) hi ha
  refine ⟨fn, tmps, asg, body, h1, RoundIn.mono h2 ?_⟩
  rintro e w' ⟨v', v, H', Γ', rfl, a1, a2, a3, a4⟩
  exact ⟨v', v, H', Γ', rfl, a1, a2, q.adv hl a3, a4⟩
theorem ext_ext {H : AHeap} (hc : Closed H) {lo lo' lo2 : Nat} {L M : List (Option ABlk)} : LQ (ext (ext H lo L) lo' M) (ext H lo2 (L ++ M)) := by
  refine ⟨fun b => ?_, by show H.next + L.length + M.length = H.next + (L ++ M).length; rw [List.length_append, Nat.add_assoc]⟩
  rw [ext_get (ext_closed hc), ext_get hc, ext_get hc]
  have hf : (ext H lo L).fresh = H.fresh + 2 * L.length := by rw [ext_fresh]; simp only [nb, AHeap.fresh]; omega
  have hn : (ext H lo L).next = H.next + L.length := rfl
  have hfr : H.fresh = 2 * H.next := rfl
  rw [hf, hn]
  by_cases h1 : b % 2 = 0 ∧ H.fresh + 2 * L.length ≤ b
  · rw [if_pos h1, if_pos (by omega)]
    rw [List.getElem?_append_right (by omega)]
    have : b / 2 - (H.next + L.length) = b / 2 - H.next - L.length := by omega
    rw [this]
  · rw [if_neg h1]
    by_cases h2 : b % 2 = 0 ∧ H.fresh ≤ b
    · rw [if_pos h2, if_pos h2, List.getElem?_append_left (by omega)]
    · rw [if_neg h2, if_neg h2]
/-! ### ends of functions that ranged over functions -/
section
variable {P : Program} {H : AHeap} {lo : Nat} {l : EL}
theorem HQ.kill {h h' : AHeap} (q : HQ h h') {b : Nat} (hb : own b = true) : HQ (h.kill b) (h'.kill b) :=
  ⟨fun c => by rw [AHeap.get_kill _ _ _ hb, AHeap.get_kill _ _ _ hb, q.get], q.next, by show min h.low b = min h'.low b; rw [q.low]⟩
theorem takeDefs_to : ∀ {ds : List Nat} {h h' h1 : AHeap}, HQ h h' → takeDefs ds h' = some h1 → ∃ h2, takeDefs ds h = some h2 ∧ HQ h2 h1
  | [], h, h', h1, q, e => by
    simp only [takeDefs, Option.some.injEq] at e
    subst e; exact ⟨h, rfl, q⟩
  | d :: r, h, h', h1, q, e => by
    simp only [takeDefs] at e
    split at e
    · rename_i hg
      split at e
      · rename_i ho
        obtain ⟨h2, e1, e2⟩ := takeDefs_to (q.kill ho) e
        refine ⟨h2, ?_, e2⟩
        simp only [takeDefs, q.get, hg, ho, if_true]; exact e1
      · cases e
    · cases e
def kills (L : List (Option ABlk)) (ks : List Nat) : List (Option ABlk) := ks.foldl (fun L k => L.set k none) L
theorem kills_get : ∀ {ks : List Nat} {L : List (Option ABlk)} {j : Nat}, j ∉ ks → (kills L ks)[j]? = L[j]?
  | [], L, j, _ => rfl
  | k :: ks, L, j, h => by
    show (kills (L.set k none) ks)[j]? = _
    rw [kills_get (by simp at h; exact h.2), List.getElem?_set_ne (by simp at h; omega)]
theorem takeDefs_ext (hc : Closed H) : ∀ {ks : List Nat} {L : List (Option ABlk)}, (∀ k ∈ ks, L[k]? = some (some .defd)) → ks.Nodup → ∃ h2, takeDefs (ks.map (nb H)) (ext H lo L) = some h2 ∧ HQ h2 (ext H lo (kills L ks))
  | [], L, _, _ => ⟨_, rfl, .refl _⟩
  | k :: ks, L, hk, hn => by
    have h1 := hk k (List.mem_cons_self ..)
    have hlt : k < L.length := (List.getElem?_eq_some_iff.1 h1).1
    rw [List.nodup_cons] at hn
    obtain ⟨h2, e1, e2⟩ := takeDefs_ext hc (ks := ks) (L := L.set k none) (fun j hj => by
      rw [List.getElem?_set_ne (fun e => hn.1 (by rw [e]; exact hj))]; exact hk j (List.mem_cons_of_mem _ hj)) hn.2
    obtain ⟨h3, e3, e4⟩ := takeDefs_to (ext_kill (lo := lo) hc hlt) e1
    refine ⟨h3, ?_, ⟨fun b => by rw [e4.get, e2.get]; rfl, by rw [e4.next, e2.next]; rfl, by rw [e4.low, e2.low]; rfl⟩⟩
    simp only [List.map_cons, takeDefs, ext_get_new h1, nb_own, if_true]
    exact e3
end
/-! ### the range itself -/
section
variable {P : Program} {nt : Nat} {l : EL} {ds : List Nat} {H : AHeap} {lo : Nat} {L : List (Option ABlk)} {Qn : St → Prop} {Qe : Nat → St → Prop} {Qr : St → Prop}
abbrev yieldV (b : Nat) : Value := .func (.yield b) #[] #[]
def loopR (l : EL) (nt : Nat) (ps : Array Tmp) (asg body : Code) (d : Nat) : ALoop := { state := .ready, pending := none, env := ofA l, ntm := nt, params := ps.toList, assign := asg, body, defers := d }
theorem ct_rangeFunc {f : Operand} {ps : Array Tmp} {asg body : Code} {g : FuncId} {x y : Array Value} (hc : Closed H) (hf : ev l f = some (.func (.func g) x y)) {R : Value → AHeap → Prop}
    (hcall : CallT P g (x.toList ++ [yieldV (nb H (L.length + 1))] ++ y.toList) (ext H lo (L ++ [some .defd, some (.loop (loopR l nt ps asg body (nb H L.length)))])) R)
    (hq : ∀ v h3, R v h3 → ∃ r lo' L', HQ h3 (ext H lo' L') ∧ L'[L.length + 1]? = some (some (.loop r)) ∧ r.state ≠ .busy ∧
      match r.pending with
      | none => Qn ⟨ofA l, nb H L.length :: ds, ext H lo' (L'.set (L.length + 1) (some (.loop { r with state := .exhausted })))⟩
      | some j => CT P none nt j ⟨ofA l, nb H L.length :: ds, ext H lo' (L'.set (L.length + 1) (some (.loop { r with state := .exhausted })))⟩ Qn Qe Qr) (hto : ∀ e d h h', HQ h h' → Qn ⟨e, d, h'⟩ → Qn ⟨e, d, h⟩) :
    CT P none nt (.rangeFunc f ps asg body) ⟨ofA l, ds, ext H lo L⟩ Qn Qe Qr := by
  have e1 : (ext H lo L).add .defd = ext H lo (L ++ [some .defd]) := ext_add _
  have e2 : (ext H lo L).fresh = nb H L.length := ext_fresh
  have e3 : ((ext H lo L).add .defd).fresh = nb H (L.length + 1) := by rw [e1, ext_fresh, List.length_append]; rfl
  refine ⟨codeT_rangeFunc (g := g) (x := x) (y := y) (R := R) (by rw [← hf]; exact evalA_ofA l f) ?_ fun v h3 hR => ?_⟩
  · simp only [e3]
    have e4 : ∀ z : Option ABlk, (L ++ [some ABlk.defd]) ++ [z] = L ++ [some .defd, z] := fun z => by simp
    rw [e1, ext_add, e4]
    simp only [e2]
    exact hcall
  · obtain ⟨r, lo', L', q, hL, hs, hk⟩ := hq v h3 hR
    have hlt : L.length + 1 < L'.length := (List.getElem?_eq_some_iff.1 hL).1
    simp only [e3, e2]
    refine ⟨r, by rw [q.get, ext_get_new hL], hs, ?_⟩
    have q2 : HQ (h3.put (nb H (L.length + 1)) (.loop { r with state := .exhausted })) (ext H lo' (L'.set (L.length + 1) (some (.loop { r with state := .exhausted })))) := by
      have p := ext_put (lo := lo') hc hlt (.loop { r with state := .exhausted })
      refine ⟨fun b => ?_, ?_, ?_⟩
      · rw [← p.get, AHeap.get_put _ _ _ _ (nb_own _), AHeap.get_put _ _ _ _ (nb_own _), q.get]
      · rw [← p.next]; exact q.next
      · rw [← p.low]; show min h3.low _ = min (ext H lo' L').low _; rw [q.low]
    obtain ⟨rx, hrx⟩ : ∃ rx : ALoop, rx = { r with state := .exhausted } := ⟨_, rfl⟩
    rw [← hrx] at q2 hk ⊢
    split at hk
    · rename_i hp
      rw [hp]
      exact hto _ _ _ _ q2 hk
    · rename_i j hp
      rw [hp]
      exact CodeT.to (fun _ _ h => h) q2 hk.out
structure RoundEnd (H : AHeap) (k : Nat) (Q : Value → AHeap → Prop) (y : Ex) (s : St) : Prop where
  out : ∃ lo' L' r, HQ s.heap (ext H lo' L') ∧ L'[k]? = some (some (.loop r)) ∧ ∀ h', HQ h' (ext H lo' (L'.set k (some (.loop { r with state := if (jumpOf y).isNone then .ready else .done, pending := jumpOf y })))) → Q (.bool (jumpOf y).isNone) h'
structure AsgEnd (P : Program) (H : AHeap) (k : Nat) (nt : Nat) (body : Code) (Q : Value → AHeap → Prop) (s : St) : Prop where
  out : ∃ l1 ds1 lo1 L1 r1, s.env = ofA l1 ∧ s.defs = ds1 ∧ HQ s.heap (ext H lo1 L1) ∧ L1[k]? = some (some (.loop r1)) ∧ r1.state = .ready ∧
    CT P (some (nb H k)) nt body ⟨ofA l1, ds1, ext H lo1 (L1.set k (some (.loop { r1 with state := .busy })))⟩ (RoundEnd H k Q .normal) (fun i => RoundEnd H k Q (.exit i)) (RoundEnd H k Q .ret)
theorem hq_put (hc : Closed H) {h : AHeap} {lo' k : Nat} {L' : List (Option ABlk)} (q : HQ h (ext H lo' L')) (hk : k < L'.length) (x : ABlk) : HQ (h.put (nb H k) x) (ext H lo' (L'.set k (some x))) := by
  have p := ext_put (lo := lo') hc hk x
  refine ⟨fun b => ?_, ?_, ?_⟩
  · rw [← p.get, AHeap.get_put _ _ _ _ (nb_own _), AHeap.get_put _ _ _ _ (nb_own _), q.get]
  · rw [← p.next]; exact q.next
  · rw [← p.low]; show min h.low _ = min (ext H lo' L').low _; rw [q.low]
theorem roundT_ct {k : Nat} {r : ALoop} {args : List Value} {e : EL} {Q : Value → AHeap → Prop} (hc : Closed H) (hk : L[k]? = some (some (.loop r))) (hset : setParams r.params args r.ntm r.env = some (ofA e))
    (h : CT P (some (nb H k)) r.ntm r.assign ⟨ofA e, [], ext H lo L⟩ (AsgEnd P H k r.ntm r.body Q) (fun _ _ => False) (fun _ => False)) : RoundT P (nb H k) args (ext H lo L) Q := by
  refine roundT_of (nb_own _) (ext_get_new hk) hset (CodeT.mono h.out fun x s hx => ?_)
  cases x with
  | exit i => exact hx.elim
  | ret => exact hx.elim
  | normal =>
    have hx : AsgEnd P H k r.ntm r.body Q s := hx
    obtain ⟨l1, ds1, lo1, L1, r1, he, hd, q, hL, hs, hb⟩ := hx.out
    have hlt : k < L1.length := (List.getElem?_eq_some_iff.1 hL).1
    refine ⟨rfl, r1, by rw [q.get, ext_get_new hL], hs, ?_⟩
    rw [he, hd]
    refine CodeT.to (fun _ _ h => h) (hq_put hc q hlt _) (CodeT.mono hb.out fun y s2 hy => ?_)
    have key : RoundEnd H k Q y s2 := by cases y <;> exact hy
    obtain ⟨lo2, L2, r2, q2, hL2, hq⟩ := key.out
    have hlt2 : k < L2.length := (List.getElem?_eq_some_iff.1 hL2).1
    exact ⟨r2, by rw [q2.get, ext_get_new hL2], hq _ (hq_put hc q2 hlt2 _)⟩
end
/-! ### loops whose list of deferred calls grows; several blocks together -/
section
variable {P : Program} {rd : Option Nat} {nt : Nat} {l : EL} {ds : List Nat} {h : AHeap} {Qe : Nat → St → Prop} {Qr : St → Prop}
theorem lt_measD {b : Code} {α : Type} (E : α → EL) (D : α → List Nat) (hh : α → AHeap) (J : α → Prop) (μ : α → Nat)
    (step : ∀ a, J a → (∀ a', μ a' < μ a → J a' → LT P rd nt b ⟨ofA (E a'), D a', hh a'⟩ Qe Qr) → CT P rd nt b ⟨ofA (E a), D a, hh a⟩ (fun s' => LT P rd nt b s' Qe Qr) Qe Qr)
    (a0 : α) (h0 : J a0) (hd : D a0 = ds) (hs : Sub (E a0) l) (q : HQ h (hh a0)) : LT P rd nt b ⟨ofA l, ds, h⟩ Qe Qr := by
  have key : ∀ (n : Nat) (a : α), μ a < n → J a → LT P rd nt b ⟨ofA (E a), D a, hh a⟩ Qe Qr := by
    intro n
    induction n with
    | zero => intro a ha; omega
    | succ n ih =>
      intro a ha hj
      exact lt_step (step a hj fun a' hm hj' => ih a' (by omega) hj')
  subst hd
  exact lt_to hs q (key (μ a0 + 1) a0 (by omega) h0)
end
def Has (M : List (Option ABlk)) (F : List (Nat × ABlk)) : Prop := ∀ p ∈ F, M[p.1]? = some (some p.2)
theorem Has.at {M : List (Option ABlk)} {F : List (Nat × ABlk)} (h : Has M F) {k : Nat} {y : ABlk} (hm : (k, y) ∈ F) : M[k]? = some (some y) := h _ hm
theorem Has.app {M : List (Option ABlk)} {F : List (Nat × ABlk)} (h : Has M F) (N : List (Option ABlk)) : Has (M ++ N) F := fun p hp => getApp (h p hp)
theorem Has.set {M : List (Option ABlk)} {F : List (Nat × ABlk)} (h : Has M F) {k : Nat} {x : Option ABlk} (hk : ∀ p ∈ F, p.1 ≠ k) : Has (M.set k x) F := fun p hp => by rw [List.getElem?_set_ne (fun e => hk p hp e.symm)]; exact h p hp
theorem LQ.ext {h h' : AHeap} (q : LQ h h') (hc : Closed h) {lo lo' : Nat} {M : List (Option ABlk)} : LQ (Go.Den.ext h lo M) (Go.Den.ext h' lo' M) := by
  refine ⟨fun b => ?_, by show h.next + M.length = h'.next + M.length; rw [q.next]⟩
  rw [ext_get hc, ext_get (q.closed hc), q.fresh, q.next, q.get]
theorem fin_two {P : Program} {H : AHeap} {Q : Value → AHeap → Prop} {rs : Array ResultVar} {l : EL} {L : List (Option ABlk)} {lo : Nat} {vs : List Value} {v : Value} {j k : Nat} {cs cs' : List Value} {z z' : Nat} {s ro s' ro' : Bool} (hc : Closed H) (hr : resE l rs.toList = some vs)
    (hj : L[j]? = some (some (.cells cs z s ro))) (hk : L[k]? = some (some (.cells cs' z' s' ro'))) (hne : j ≠ k) (hf : cs.all (flatD 8) = true) (hf' : cs'.all (flatD 8) = true) (hv : renV (renOf H [nb H j, nb H k]) 8 (packA vs) = some v) (hq : Q v ((H.add (.cells cs z s ro)).add (.cells cs' z' s' ro'))) :
    Fin P rs H Q ⟨ofA l, [], ext H lo L⟩ := by
  refine ⟨⟨_, vs, v, _, rfl, resE_A hr, ?_, hq⟩⟩
  refine tidy_of (H0 := H) (ys := [.cells cs z s ro, .cells cs' z' s' ro']) (ren_ext hc (fun _ _ h => ext_get_old hc h) (l := [nb H j, nb H k]) ?_ ?_ rfl ?_) hv
  · simp only [List.nodup_cons, List.mem_singleton, List.not_mem_nil, not_false_eq_true, List.nodup_nil, and_true]
    intro e; exact hne (nb_inj.1 e)
  · intro b hb
    simp only [List.mem_cons, List.not_mem_nil, or_false] at hb
    rcases hb with rfl | rfl
    · exact ⟨own_iff.1 (nb_own _), nb_ge _⟩
    · exact ⟨own_iff.1 (nb_own _), nb_ge _⟩
  · intro i b y hb hy
    match i, hb, hy with
    | 0, hb, hy =>
      simp only [List.getElem?_cons_zero, Option.some.injEq] at hb hy
      subst hb; subst hy
      exact ⟨_, ext_get_new hj, renB_flat hf⟩
    | 1, hb, hy =>
      simp only [List.getElem?_cons_succ, List.getElem?_cons_zero, Option.some.injEq] at hb hy
      subst hb; subst hy
      exact ⟨_, ext_get_new hk, renB_flat hf'⟩
    | i + 2, hb, hy => simp at hb
theorem renOf_two {H : AHeap} {a b : Nat} (ha : a % 2 = 0 ∧ H.fresh ≤ a) (hb : b % 2 = 0 ∧ H.fresh ≤ b) (hne : a ≠ b) : renOf H [a, b] a = some H.fresh ∧ renOf H [a, b] b = some (H.fresh + 2) := by
  unfold renOf
  rw [if_neg (by omega), if_neg (by omega)]
  simp [List.findIdx?, List.findIdx?.go, hne]
section
variable {P : Program} {rd : Option Nat} {nt : Nat} {ops : Array Oper} {l : EL} {ds : List Nat} {i : Nat} {ty : TypeId} {pos : String} {af : Array Edge} {H : AHeap} {lo : Nat} {L L' : List (Option ABlk)}
end
section
variable {P : Program} {nt : Nat} {l : EL} {ds : List Nat} {H : AHeap} {lo : Nat} {L : List (Option ABlk)} {Qn : St → Prop} {Qe : Nat → St → Prop} {Qr : St → Prop}
theorem ct_rangeFuncR {f : Operand} {ps : Array Tmp} {asg body : Code} {g : FuncId} {x y : Array Value} (hc : Closed H) (hf : ev l f = some (.func (.func g) x y)) (S : ALoop → Value → AHeap → Prop)
    (hcall : ∀ R : ALoop, R = loopR l nt ps asg body (nb H L.length) → CallT P g (x.toList ++ [yieldV (nb H (L.length + 1))] ++ y.toList) (ext H lo (L ++ [some .defd, some (.loop R)])) (S R))
    (hq : ∀ R : ALoop, R = loopR l nt ps asg body (nb H L.length) → ∀ v h3, S R v h3 → ∃ r lo' L', HQ h3 (ext H lo' L') ∧ L'[L.length + 1]? = some (some (.loop r)) ∧ r.state ≠ .busy ∧
      match r.pending with
      | none => Qn ⟨ofA l, nb H L.length :: ds, ext H lo' (L'.set (L.length + 1) (some (.loop { r with state := .exhausted })))⟩
      | some j => CT P none nt j ⟨ofA l, nb H L.length :: ds, ext H lo' (L'.set (L.length + 1) (some (.loop { r with state := .exhausted })))⟩ Qn Qe Qr) (hto : ∀ e d h h', HQ h h' → Qn ⟨e, d, h'⟩ → Qn ⟨e, d, h⟩) :
    CT P none nt (.rangeFunc f ps asg body) ⟨ofA l, ds, ext H lo L⟩ Qn Qe Qr :=
  ct_rangeFunc hc hf (hcall _ rfl) (hq _ rfl) hto
end
end Go.Den
