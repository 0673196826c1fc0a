import Derived.Test.YtlejimjgagfalaaGreatDoorDnA
import Derived.Test.YtlejimjgagfalaaGreatDoorDnB
import Derived.WalkKit
import Derived.ProofKit
import Derived.OpenShut
import Derived.Carry
import Derived.ChangeSame
import GoSem.ClaimJoined
noncomputable section
namespace Go.Den
abbrev EL := List (Nat × Value)
def ofA : EL → Env
 | [] => .nil
 | (t, v) :: r => (ofA r).set t v
def lk : EL → Nat → Option Value
 | [], _ => none
 | (t, v) :: r, k => match Nat.beq t k with
  | true => some v
  | false => lk r k
theorem zaG : ∀ (l : EL) (k : Nat), (ofA l).get k = lk l k
 | [], k => Tr.zbS k
 | (t, v) :: r, k => by
  simp only [ofA, lk, Tr.zaT, zaG r k]
  cases h : Nat.beq t k with
  | true => rw [if_pos (Nat.eq_of_beq_eq_true h).symm]
  | false => rw [if_neg (fun e => Nat.ne_of_beq_eq_false h e.symm)]
def argE : Nat → List Value → EL
 | _, [] => []
 | n, v :: r => (n, v) :: argE (n + 1) r
theorem zlU : ∀ (l : List Value) (n k : Nat), lk (argE n l) k = if n ≤ k then l[k - n]? else none
 | [], n, k => by simp [argE, lk]
 | v :: r, n, k => by
  simp only [argE, lk, zlU r (n + 1) k]
  cases h : Nat.beq n k with
  | true =>
   have := Nat.eq_of_beq_eq_true h
   subst this; simp
  | false =>
   have := Nat.ne_of_beq_eq_false h;by_cases h1 : n + 1 ≤ k
   ·rw [if_pos h1, if_pos (by omega)];have : k - n = (k - (n + 1)) + 1 := by omega
    rw [this]; simp
   ·rw [if_neg h1, if_neg (by omega)]
def ev (l : EL) : Operand → Option Value
 | .tmp t => lk l t
 | .const v => match constOk v with
  | true => some v
  | false => none
 | .global g => match Nat.blt g 1000 with
  | true => some (.pointer (some ⟨2 * g + 1, 0, none⟩))
  | false => none
 | .func f => some (.func (.func f) #[] #[])
theorem zaE (l : EL) (x : Operand) : evalA (ofA l) x = ev l x := by
 cases x with
 | tmp t => exact zaG l t
 | const v => simp only [evalA, ev]; cases constOk v <;> rfl
 | global g =>
  simp only [evalA, ev]
  cases h : Nat.blt g 1000 with
  | true => rw [Nat.blt_eq] at h; rw [if_pos h]
  | false => rw [if_neg (fun hl => by rw [← Nat.blt_eq] at hl; rw [hl] at h; cases h)]
 | func f => rfl
def evs (l : EL) : List Operand → Option (List Value)
 | [] => some []
 | x :: r => match ev l x with
  | some v => match evs l r with
   | some vs => some (v :: vs)
   | none => none
  | none => none
theorem zeU (l : EL) : ∀ xs, evalL (ofA l) xs = evs l xs
 | [] => rfl
 | x :: r => by simp only [evalL, evs, zaE, zeU l r]; cases ev l x <;> rfl
def evp (l : EL) : List (Nat × Operand) → Option (List (Nat × Value))
 | [] => some []
 | (i, x) :: r => match ev l x with
  | some v => match evp l r with
   | some vs => some ((i, v) :: vs)
   | none => none
  | none => none
theorem zfv (l : EL) : ∀ xs, evalPs (ofA l) xs = evp l xs
 | [] => rfl
 | (i, x) :: r => by simp only [evalPs, evp, zaE, zfv l r]; cases ev l x <;> rfl
structure HQ (h h' : AHeap) : Prop where
 get : ∀ b, h.get b = h'.get b
 next : h.next = h'.next
 low : h.low = h'.low
theorem HQ.refl (h : AHeap) : HQ h h := ⟨fun _ => rfl, rfl, rfl⟩
theorem HQ.symm {h h' : AHeap} (q : HQ h h') : HQ h' h := ⟨fun b => (q.get b).symm, q.next.symm, q.low.symm⟩
theorem HQ.fresh {h h' : AHeap} (q : HQ h h') : h.fresh = h'.fresh := by simp only [AHeap.fresh, q.next]
theorem HQ.rel {h h' : AHeap} (q : HQ h h') {Γ : Ga} {w : World} (r : Rel Γ h w) : Rel Γ h' w :=
 ⟨fun b i hb => by rw [← q.fresh]; exact r.dom b i hb, fun b x hb => r.blk b x (by rw [q.get]; exact hb), fun b x hb => r.ownd b x (by rw [q.get]; exact hb),
  fun b b' x x' i i' hb hb' => r.sep b b' x x' i i' (by rw [q.get]; exact hb) (by rw [q.get]; exact hb')⟩
theorem HQ.mine {h h' : AHeap} (q : HQ h h') {Γ : Ga} {r : Nat} (m : Mine Γ h r) : Mine Γ h' r := by
 obtain ⟨b, x, i, h1, h2⟩ := m;exact ⟨b, x, i, by rw [← q.get]; exact h1, h2⟩
theorem HQ.kept {h h' h2 : AHeap} (q : HQ h h') (k : Kept h h2) : Kept h' h2 :=
 ⟨by rw [← q.low]; exact k.low, fun b hb => by rw [k.get b (by rw [q.fresh]; exact hb), q.get]⟩
theorem HQ.adv {h h' h2 : AHeap} (q : HQ h h') {Γ Γ' : Ga} {w w' : World} (a : Adv Γ h w Γ' h2 w') : Adv Γ h' w Γ' h2 w' :=
 ⟨fun b hb => a.ext b (by rw [q.fresh]; exact hb), by rw [← q.fresh]; exact a.fresh, a.size, fun r hr hm => a.keep r hr fun m => hm (q.mine m), fun r hm => (a.mine r hm).imp id q.mine, a.os, a.tape, a.output, q.kept a.kept⟩
section
variable {P : Program} {rd : Option Nat} {nt : Nat} {ops : Array Oper}
theorem StR.to {Γ : Ga} {e e' : Env} {ds : List Nat} {h h' : AHeap} {a : Act} {w : World} (he : ∀ t v, e'.get t = some v → e.get t = some v) (q : HQ h h') (s : StR Γ ⟨e, ds, h⟩ nt a w) : StR Γ ⟨e', ds, h'⟩ nt a w :=
 ⟨q.rel s.rel, ⟨s.env.size, s.env.glob, fun t v hv => s.env.val t v (he t v hv)⟩, s.defs⟩
theorem PostC.to {Γ : Ga} {e e' : Env} {ds : List Nat} {h h' : AHeap} {w : World} {Q : Ex → St → Prop} (q : HQ h h') {x : Exit} {a : Act} {w' : World} (p : PostC Γ ⟨e, ds, h⟩ nt w Q x a w') : PostC Γ ⟨e', ds, h'⟩ nt w Q x a w' := by
 obtain ⟨y, s', Γ', h1, h2, h3, h4⟩ := p;exact ⟨y, s', Γ', h1, h2, h3, q.adv h4⟩
theorem CodeT.to {c : Code} {e e' : Env} {ds : List Nat} {h h' : AHeap} {Q : Ex → St → Prop} (he : ∀ t v, e'.get t = some v → e.get t = some v) (q : HQ h h') (p : CodeT P rd nt c ⟨e', ds, h'⟩ Q) : CodeT P rd nt c ⟨e, ds, h⟩ Q :=
 fun Γ F a w hs hF => wpIn_mono (p Γ F a w (hs.to he q) hF) fun _ _ _ hp => hp.to q.symm
theorem LoopT.to {c : Code} {e e' : Env} {ds : List Nat} {h h' : AHeap} {Q : Ex → St → Prop} (he : ∀ t v, e'.get t = some v → e.get t = some v) (q : HQ h h') (p : LoopT P rd nt c ⟨e', ds, h'⟩ Q) : LoopT P rd nt c ⟨e, ds, h⟩ Q :=
 fun Γ F a w hs hF => zfp (p Γ F a w (hs.to he q) hF) fun _ _ _ hp => hp.to q.symm
theorem OpT.to {i : Nat} {e e' : Env} {ds : List Nat} {h h' : AHeap} {Q : St → Prop} (he : ∀ t v, e'.get t = some v → e.get t = some v) (q : HQ h h') (p : OpT P rd nt ops i ⟨e', ds, h'⟩ Q) : OpT P rd nt ops i ⟨e, ds, h⟩ Q :=
 fun Γ F a w hs hF K Qx hK => p Γ F a w (hs.to he q) hF K Qx fun s' Γ' a' w' h1 h2 h3 h4 => hK s' Γ' a' w' h1 h2 (q.symm.adv h3) h4
end
def extGo : List (Option ABlk) → Nat → Tr ABlk → Tr ABlk
 | [], _, t => t
 | some x :: r, n, t => extGo r (n + 1) (t.set n x)
 | none :: r, n, t => extGo r (n + 1) t
def ext (H : AHeap) (lo : Nat) (L : List (Option ABlk)) : AHeap := ⟨extGo L H.next H.blks, H.base, H.next + L.length, min lo H.fresh⟩
def nb (H : AHeap) (k : Nat) : Nat := 2 * (H.next + k)
theorem zbo : ∀ (L : List (Option ABlk)) (n : Nat) (t : Tr ABlk) (m : Nat), (extGo L n t).get m = if n ≤ m then (match L[m - n]? with | some (some x) => some x | _ => t.get m) else t.get m
 | [], n, t, m => by simp [extGo]
 | o :: r, n, t, m => by
  have key : ∀ t', (extGo r (n + 1) t').get m = if n + 1 ≤ m then (match r[m - (n + 1)]? with | some (some x) => some x | _ => t'.get m) else t'.get m := fun t' => zbo r (n + 1) t' m
  by_cases h1 : n + 1 ≤ m
  ·have e : m - n = (m - (n + 1)) + 1 := by omega
   have ne : ¬ m = n := by omega
   rw [if_pos (by omega : n ≤ m), e, List.getElem?_cons_succ]
   cases o with
   | none => simp only [extGo]; rw [key, if_pos h1]
   | some x => simp only [extGo]; rw [key, if_pos h1, Tr.zaT, if_neg ne]
  ·by_cases h2 : m = n
   ·subst h2;rw [if_pos (Nat.le_refl m), Nat.sub_self]
    cases o with
    | none => simp only [extGo]; rw [key, if_neg h1]; simp
    | some x => simp only [extGo]; rw [key, if_neg h1, Tr.zaT, if_pos rfl]; simp
   ·rw [if_neg (by omega : ¬ n ≤ m)]
    cases o with
    | none => simp only [extGo]; rw [key, if_neg h1]
    | some x => simp only [extGo]; rw [key, if_neg h1, Tr.zaT, if_neg h2]
theorem zfu : ∀ (L : List (Option ABlk)) (n : Nat) (t : Tr ABlk) (x : ABlk), (extGo L n t).set (n + L.length) x = extGo (L ++ [some x]) n t
 | [], n, t, x => rfl
 | none :: r, n, t, x => by
  have := zfu r (n + 1) t x;simp only [extGo, List.cons_append, List.length_cons]
  rw [← this]; congr 1; omega
 | some y :: r, n, t, x => by
  have := zfu r (n + 1) (t.set n y) x;simp only [extGo, List.cons_append, List.length_cons];rw [← this]; congr 1; omega
section
variable {H : AHeap} {lo : Nat} {L : List (Option ABlk)}
theorem zal : (ext H lo L).fresh = nb H L.length := rfl
theorem zbf (k : Nat) : H.fresh ≤ nb H k := by simp only [nb, AHeap.fresh]; omega
theorem zat (k : Nat) : own (nb H k) = true := by rw [zao]; simp only [nb]; omega
theorem zfM {j k : Nat} : nb H j = nb H k ↔ j = k := by simp only [nb]; omega
theorem zaa {k : Nat} {x : ABlk} (h : L[k]? = some (some x)) : (ext H lo L).get (nb H k) = some x := by
 rw [AHeap.get_even _ (zao.1 (zat k))];have : nb H k / 2 = H.next + k := by simp only [nb]; omega
 simp only [ext, this, zbo];rw [if_pos (by omega), Nat.add_sub_cancel_left, h]
theorem zg4 {b : Nat} (hb : b % 2 = 1 ∨ b < H.fresh) : (ext H lo L).get b = H.get b := by
 rcases Nat.mod_two_eq_zero_or_one b with h | h
 ·rw [AHeap.get_even _ h, AHeap.get_even _ h];simp only [ext, zbo];rw [if_neg];simp only [AHeap.fresh] at hb;omega
 ·rw [AHeap.get_odd _ h, AHeap.get_odd _ h]; rfl
theorem Closed.lt (hc : Closed H) {b : Nat} {x : ABlk} (h : H.get b = some x) : b % 2 = 1 ∨ b < H.fresh := by
 rcases Nat.mod_two_eq_zero_or_one b with h1 | h1
 ·right;rcases Nat.lt_or_ge b H.fresh with h2 | h2
  ·exact h2
  ·rw [hc b h1 h2] at h; cases h
 ·exact .inl h1
theorem zaj (hc : Closed H) {b : Nat} {x : ABlk} (h : H.get b = some x) : (ext H lo L).get b = some x := by
 rw [zg4 (hc.lt h)]; exact h
theorem zbq (hc : Closed H) (b : Nat) : (ext H lo L).get b = if b % 2 = 0 ∧ H.fresh ≤ b then (match L[b / 2 - H.next]? with | some (some x) => some x | _ => none) else H.get b := by
 by_cases h : b % 2 = 0 ∧ H.fresh ≤ b
 ·rw [if_pos h, AHeap.get_even _ h.1];simp only [ext, zbo];have h2 := h.2;simp only [AHeap.fresh] at h2;rw [if_pos (by omega)];have hn := hc b h.1 h.2;rw [AHeap.get_even _ h.1] at hn;rw [hn]
 ·rw [if_neg h]; exact zg4 (by omega)
theorem zbp (hc : Closed H) : Closed (ext H lo L) := by
 intro b h1 h2;rw [zbq hc, if_pos ⟨h1, Nat.le_trans (by rw [zal]; exact zbf _) h2⟩];rw [zal] at h2
 have : L[b / 2 - H.next]? = none := by
  rw [List.getElem?_eq_none_iff]; simp only [nb] at h2; omega
 rw [this]
theorem za2 (x : ABlk) : (ext H lo L).add x = ext H lo (L ++ [some x]) := by
 simp only [ext, AHeap.add, zfu];simp [Nat.add_assoc]
theorem zem (hc : Closed H) {k : Nat} (hk : k < L.length) (x : ABlk) : HQ ((ext H lo L).put (nb H k) x) (ext H lo (L.set k (some x))) := by
 refine ⟨fun b => ?_, by simp [ext, AHeap.put], ?_⟩
 ·rw [AHeap.get_put _ _ _ _ (zat k), zbq hc, zbq hc];by_cases e : b = nb H k
  ·subst e;rw [if_pos rfl, if_pos ⟨zao.1 (zat k), zbf k⟩];have : nb H k / 2 - H.next = k := by simp only [nb]; omega
   rw [this];simp [hk]
  ·rw [if_neg e];by_cases h : b % 2 = 0 ∧ H.fresh ≤ b
   ·rw [if_pos h, if_pos h]
    have : ¬ k = b / 2 - H.next := by
     have h2 := h.2;intro e2; apply e; simp only [nb]; simp only [AHeap.fresh] at h2; omega
    rw [List.getElem?_set_ne this]
   ·rw [if_neg h, if_neg h]
 ·show min (min lo H.fresh) (nb H k) = min lo H.fresh;have := zbf (H := H) k;omega
theorem zqI (hc : Closed H) {k : Nat} (hk : k < L.length) : HQ ((ext H lo L).kill (nb H k)) (ext H lo (L.set k none)) := by
 refine ⟨fun b => ?_, by simp [ext, AHeap.kill], ?_⟩
 ·rw [AHeap.get_kill _ _ _ (zat k), zbq hc, zbq hc];by_cases e : b = nb H k
  ·subst e;rw [if_pos rfl, if_pos ⟨zao.1 (zat k), zbf k⟩];have : nb H k / 2 - H.next = k := by simp only [nb]; omega
   rw [this];simp [hk]
  ·rw [if_neg e];by_cases h : b % 2 = 0 ∧ H.fresh ≤ b
   ·rw [if_pos h, if_pos h]
    have : ¬ k = b / 2 - H.next := by
     have h2 := h.2;intro e2; apply e; simp only [nb]; simp only [AHeap.fresh] at h2; omega
    rw [List.getElem?_set_ne this]
   ·rw [if_neg h, if_neg h]
 ·show min (min lo H.fresh) (nb H k) = min lo H.fresh;have := zbf (H := H) k;omega
theorem zg2 {b : Nat} (hb : own b = true) (hlt : b < H.fresh) (hc : Closed H) (x : ABlk) : HQ ((ext H lo L).put b x) (ext (H.put b x) (min lo b) L) := by
 have hc' : Closed (H.put b x) := by
  intro c h1 h2;have h2' : H.fresh ≤ c := h2;rw [AHeap.get_put _ _ _ _ hb, if_neg (by omega)];exact hc c h1 h2'
 refine ⟨fun c => ?_, rfl, ?_⟩
 ·rw [AHeap.get_put _ _ _ _ hb, zbq hc, zbq hc', AHeap.get_put _ _ _ _ hb];have e1 : (H.put b x).fresh = H.fresh := rfl;have e2 : (H.put b x).next = H.next := rfl;rw [e1, e2];by_cases e : c = b
  ·subst e;rw [if_pos rfl, if_neg (by omega), if_pos rfl]
  ·rw [if_neg e];by_cases h : c % 2 = 0 ∧ H.fresh ≤ c
   ·rw [if_pos h, if_pos h]
   ·rw [if_neg h, if_neg h, if_neg e]
 ·show min (min lo H.fresh) b = min (min lo b) H.fresh;omega
end
end Go.Den
end
noncomputable section
namespace Go.Den
def Tidy (H : AHeap) (v1 : Value) (H1 : AHeap) (v2 : Value) (H2 : AHeap) : Prop :=
 ∀ (Γ Γ1 : Ga) (w w' : World) (v' : Value), Rel Γ H w → Rel Γ1 H1 w' → Adv Γ { H with low := H.fresh } w Γ1 H1 w' → VR Γ1 v1 v' →
  ∃ Γ2, Rel Γ2 H2 w' ∧ Adv Γ H w Γ2 H2 w' ∧ VR Γ2 v2 v'
structure Ren (H H1 : AHeap) (ren : Nat → Option Nat) (l : List Nat) (H0 : AHeap) (ys : List ABlk) : Prop where
 old : ∀ b, (b % 2 = 1 ∨ b < H.fresh) → ren b = some b
 nw : ∀ b c, ¬ (b % 2 = 1 ∨ b < H.fresh) → ren b = some c → ∃ k : Nat, l[k]? = some b ∧ c = H.fresh + 2 * k
 mem : ∀ (k : Nat) b, l[k]? = some b → b % 2 = 0 ∧ H.fresh ≤ b ∧ ren b = some (H.fresh + 2 * k)
 len : ys.length = l.length
 blk : ∀ (k : Nat) b y, l[k]? = some b → ys[k]? = some y → ∃ x, H1.get b = some x ∧ renB ren x = some y
 next : H0.next = H.next
 odd : ∀ b, b % 2 = 1 → H0.get b = H.get b
 ge : ∀ b, b % 2 = 0 → H.fresh ≤ b → H0.get b = none
 chg : ∀ b y, b % 2 = 0 → b < H.fresh → H0.get b = some y → (H.get b = some y ∧ H1.get b = some y) ∨ ∃ x, H1.get b = some x ∧ renB ren x = some y
 low : H0.low ≤ H.low
 lows : ∀ b, b < H.fresh → b < H0.low → H0.get b = H.get b
theorem zdz {H H1 H0 : AHeap} {ren : Nat → Option Nat} {l : List Nat} {ys : List ABlk} {v1 v2 : Value} (r : Ren H H1 ren l H0 ys) (hv1 : renV ren 8 v1 = some v2) : Tidy H v1 H1 v2 (addL H0 ys) := by
 intro Γ Γ1 w w' v' hr h1 ha hv;obtain ⟨sp1, sp2, sp3, sp4⟩ := zdb ys H0;have hf0 : H0.fresh = H.fresh := by simp only [AHeap.fresh, r.next]
 rw [hf0] at sp1
 let G : Ga := fun b => if b % 2 = 0 ∧ H.fresh ≤ b then (l[(b - H.fresh) / 2]?).bind Γ1 else Γ b
 have hext : ∀ b, b % 2 = 1 ∨ b < H.fresh → Γ1 b = Γ b := ha.ext;have hev := zao.1 (zby H)
 have Gold : ∀ b, b % 2 = 1 ∨ b < H.fresh → G b = Γ b := by
  intro b hb;show (if _ then _ else _) = _;rw [if_neg (by rintro ⟨e, l⟩; omega)]
 have Gnew : ∀ k : Nat, G (H.fresh + 2 * k) = (l[k]?).bind Γ1 := by
  intro k;show (if _ then _ else _) = _;rw [if_pos (by omega)];have : (H.fresh + 2 * k - H.fresh) / 2 = k := by omega
  rw [this]
 have hle : Ga.le Γ G := fun b i hb => by rw [Gold b (hr.dom b i hb)]; exact hb
 have hτ : ∀ b c i, ren b = some c → Γ1 b = some i → G c = some i := by
  intro b c i hb hi;by_cases ho : b % 2 = 1 ∨ b < H.fresh
  ·rw [r.old b ho] at hb; cases hb;rw [Gold b ho, ← hext b ho]; exact hi
  ·obtain ⟨k, e1, e2⟩ := r.nw b c ho hb;subst e2;rw [Gnew, e1]; exact hi
 have src : ∀ b y, (addL H0 ys).get b = some y → ((b % 2 = 1 ∨ b < H.fresh) ∧ H.get b = some y ∧ H1.get b = some y) ∨
   (∃ x, b % 2 = 0 ∧ b < H.fresh ∧ H1.get b = some x ∧ renB ren x = some y) ∨
   ∃ k b1 x, b = H.fresh + 2 * k ∧ l[k]? = some b1 ∧ b1 % 2 = 0 ∧ H.fresh ≤ b1 ∧ ren b1 = some b ∧ H1.get b1 = some x ∧ renB ren x = some y ∧ k < ys.length := by
  intro b y hb;rcases sp4 b y hb with ⟨h5, _⟩ | ⟨k, h5, h6⟩
  ·rcases Nat.mod_two_eq_zero_or_one b with hp | hp
   ·rcases Nat.lt_or_ge b H.fresh with hq | hq
    ·rcases r.chg b y hp hq h5 with ⟨e1, e2⟩ | ⟨x, e1, e2⟩
     ·exact .inl ⟨.inr hq, e1, e2⟩
     ·exact .inr (.inl ⟨x, hp, hq, e1, e2⟩)
    ·rw [r.ge b hp hq] at h5; cases h5
   ·left;rw [r.odd b hp] at h5;refine ⟨.inl hp, h5, ?_⟩;rw [ha.kept.get b (.inl hp)]; exact h5
  ·right; right;rw [hf0] at h6;have hk : k < l.length := by rw [← r.len]; exact (List.getElem?_eq_some_iff.1 h5).1
   have hl : l[k]? = some l[k] := by simp [hk]
   obtain ⟨q1, q2, q3⟩ := r.mem k l[k] hl;obtain ⟨x, x1, x2⟩ := r.blk k l[k] y hl h5;exact ⟨k, l[k], x, h6, hl, q1, q2, by rw [q3, h6], x1, x2, by rw [r.len]; exact hk⟩
 have place : ∀ b y, (addL H0 ys).get b = some y → ∀ i, G b = some i → ∃ b1 x, H1.get b1 = some x ∧ Γ1 b1 = some i ∧ x.isOwn = y.isOwn ∧ (((b % 2 = 1 ∨ b < H.fresh) ∧ b1 = b) ∨ (b1 % 2 = 0 ∧ H.fresh ≤ b1 ∧ ren b1 = some b)) := by
  intro b y hb i hi;rcases src b y hb with ⟨hd, g1, g2⟩ | ⟨x, hp, hq, g1, g2⟩ | ⟨k, b1, x, e, g1, g2, g3, g4, g5, g6, _⟩
  ·exact ⟨b, y, g2, by rw [hext b hd, ← Gold b hd]; exact hi, rfl, .inl ⟨hd, rfl⟩⟩
  ·exact ⟨b, x, g1, by rw [hext b (.inr hq), ← Gold b (.inr hq)]; exact hi, (zcK g2).symm, .inl ⟨.inr hq, rfl⟩⟩
  ·refine ⟨b1, x, g5, ?_, (zcK g6).symm, .inr ⟨g2, g3, g4⟩⟩;rw [e, Gnew, g1] at hi; exact hi
 have hkept : Kept H (addL H0 ys) := by
  refine ⟨by rw [sp3]; exact r.low, fun b hb => ?_⟩
  have h2 := sp2.get b (by
   rcases hb with h | ⟨h, h'⟩
   ·exact .inl h
   ·exact .inr ⟨by rw [hf0]; exact h, h'⟩)
  rw [h2];rcases hb with h | ⟨h, h'⟩
  ·exact r.odd b h
  ·rw [sp3] at h'; exact r.lows b h h'
 refine ⟨G, ⟨?_, ?_, ?_, ?_⟩, ⟨fun b hb => Gold b hb, by rw [sp1]; omega, ha.size, ?_, ?_, ha.os, ha.tape, ha.output, hkept⟩, zcZ hτ 8 hv1 hv⟩
 ·intro b i hb;rw [sp1];by_cases hc : b % 2 = 0 ∧ H.fresh ≤ b
  ·right;have h : (if b % 2 = 0 ∧ H.fresh ≤ b then (l[(b - H.fresh) / 2]?).bind Γ1 else Γ b) = some i := hb;rw [if_pos hc] at h
   cases hg : l[(b - H.fresh) / 2]? with
   | none => rw [hg] at h; cases h
   | some x =>
    have := (List.getElem?_eq_some_iff.1 hg).1;have := r.len;omega
  ·have : b % 2 = 1 ∨ b < H.fresh := by omega
   exact this.imp id (by omega)
 ·intro b y hb;rcases src b y hb with ⟨hd, g1, g2⟩ | ⟨x, hp, hq, g1, g2⟩ | ⟨k, b1, x, e, g1, g2, g3, g4, g5, g6, _⟩
  ·obtain ⟨i, o, k1, k2, k3⟩ := h1.blk b y g2;obtain ⟨i2, o2, m1, m2, m3⟩ := hr.blk b y g1;rw [hext b hd, m1] at k1; cases k1;have hle1 : Ga.le Γ Γ1 := fun b i hb => by rw [hext b (hr.dom b i hb)]; exact hb
   exact ⟨i, o, hle _ _ m1, k2, (m3.restrict hle1 k3).mono hle⟩
  ·obtain ⟨i, o, k1, k2, k3⟩ := h1.blk b x g1;exact ⟨i, o, hτ _ _ _ (r.old b (.inr hq)) k1, k2, zc2 hτ g2 k3⟩
  ·obtain ⟨i, o, k1, k2, k3⟩ := h1.blk b1 x g5;exact ⟨i, o, hτ _ _ _ g4 k1, k2, zc2 hτ g6 k3⟩
 ·intro b y hb hob;rcases src b y hb with ⟨hd, g1, g2⟩ | ⟨x, hp, hq, g1, g2⟩ | ⟨k, b1, x, e, g1, g2, g3, g4, g5, g6, _⟩
  ·exact hr.ownd b y g1 hob
  ·rw [zcK g2]; exact h1.ownd b x g1 hob
  ·rw [zcK g6]; exact h1.ownd b1 x g5 (zao.2 g2)
 ·intro b b' y y' i i' hb hb' hi hi' hown hne;obtain ⟨c, x, p1, p2, p3, p4⟩ := place b y hb i hi;obtain ⟨c', x', q1, q2, q3, q4⟩ := place b' y' hb' i' hi';refine h1.sep c c' x x' i i' p1 q1 p2 q2 (by rw [p3]; exact hown) ?_;intro e; subst e;rcases p4 with ⟨u1, u2⟩ | ⟨u1, u2, u3⟩ <;> rcases q4 with ⟨t1, t2⟩ | ⟨t1, t2, t3⟩
  ·exact hne (u2.symm.trans t2)
  ·subst u2; omega
  ·subst t2; omega
  ·rw [u3] at t3; cases t3; exact hne rfl
 ·intro r' hlt hm;exact ha.keep r' hlt hm
 ·rintro r' ⟨b, y, i, hb, hown, hi, rfl⟩
  obtain ⟨c, x, p1, p2, p3, _⟩ := place b y hb i hi;exact ha.mine i.real ⟨c, x, i, p1, by rw [p3]; exact hown, p2, rfl⟩
theorem zh4 {P : Program} {f : FuncId} {args : List Value} {H : AHeap} {Q : Value → AHeap → Prop}
  (h : CallT P f args { H with low := H.fresh } (fun v1 H1 => ∃ v2 H2, Tidy H v1 H1 v2 H2 ∧ Q v2 H2)) : CallT P f args H Q := by
 refine ⟨h.enters, fun Γ w args' hr hg ha => (h.calls Γ w args' (hr.lower _) hg ha).mono ?_⟩
 rintro e w' ⟨v', v1, H1, Γ1, rfl, ⟨v2, H2, ht, hq⟩, h1, h2, h3⟩
 obtain ⟨Γ2, k1, k2, k3⟩ := ht Γ Γ1 w w' v' hr h1 h2 h3;exact ⟨v', v2, H2, Γ2, rfl, hq, k1, k2, k3⟩
def flatD : Nat → Value → Bool
 | 0, _ => false
 | d + 1, v => match v with
  | .bool _ | .int _ _ | .string _ | .pointer none | .slice none _ _ | .map none | .nilFunc | .nilIface => true
  | .agg l | .tuple l => l.toList.all (flatD d)
  | _ => false
theorem zeF {f : Value → Option Value} {p : Value → Bool} (h : ∀ v, p v = true → f v = some v) : ∀ {l : List Value}, l.all p = true → renL f l = some l
 | [], _ => rfl
 | v :: r, hl => by
  simp only [List.all_cons, Bool.and_eq_true] at hl;simp only [renL, h v hl.1, zeF h hl.2]
theorem zeE {τ : Nat → Option Nat} : ∀ (d : Nat) {v : Value}, flatD d v = true → renV τ d v = some v
 | 0, v, h => by simp [flatD] at h
 | d + 1, v, h => by
  unfold flatD at h
  split at h <;> first
   | rfl
   | (cases h; done)
   | (rename_i l; simp only [renV, zeF (fun v hv => zeE d hv) h])
theorem zc3 {τ : Nat → Option Nat} {cs : List Value} {z : Nat} {s ro : Bool} (h : cs.all (flatD 8) = true) : renB τ (.cells cs z s ro) = some (.cells cs z s ro) := by
 simp only [renB, zeF (fun v hv => zeE 8 hv) h]
section
variable {H : AHeap} {L : List (Option ABlk)}
def renOf (H : AHeap) (l : List Nat) (b : Nat) : Option Nat := if b % 2 = 1 ∨ b < H.fresh then some b else (l.findIdx? (fun c => decide (c = b))).map (H.fresh + 2 * ·)
theorem zeh (hc : Closed H) {H1 : AHeap} {l : List Nat} {ys : List ABlk} (h1 : ∀ b x, H.get b = some x → H1.get b = some x) (hnd : l.Nodup) (hm : ∀ b ∈ l, b % 2 = 0 ∧ H.fresh ≤ b) (hlen : ys.length = l.length)
  (hb : ∀ (k : Nat) b y, l[k]? = some b → ys[k]? = some y → ∃ x, H1.get b = some x ∧ renB (renOf H l) x = some y) : Ren H H1 (renOf H l) l H ys := by
 refine ⟨fun b h => by simp only [renOf, if_pos h], fun b c h1 h2 => ?_, fun k b h => ?_, hlen, hb, rfl, fun _ _ => rfl, hc, fun b y _ _ h => .inl ⟨h, h1 b y h⟩, Nat.le_refl _, fun _ _ _ => rfl⟩
 ·simp only [renOf, if_neg h1] at h2
  cases hf : l.findIdx? (fun c => decide (c = b)) with
  | none => rw [hf] at h2; cases h2
  | some k =>
   rw [hf] at h2;simp only [Option.map_some, Option.some.injEq] at h2;rw [List.findIdx?_eq_some_iff_getElem] at hf;obtain ⟨hk, he, _⟩ := hf;refine ⟨k, ?_, h2.symm⟩;rw [List.getElem?_eq_getElem hk];simpa using he
 ·obtain ⟨hk, rfl⟩ := List.getElem?_eq_some_iff.1 h;obtain ⟨m1, m2⟩ := hm l[k] (List.getElem_mem hk);refine ⟨m1, m2, ?_⟩
  have : l.findIdx? (fun c => decide (c = l[k])) = some k := by
   rw [List.findIdx?_eq_some_iff_getElem];refine ⟨hk, by simp, fun j hj => ?_⟩;simp only [decide_eq_true_eq];intro e;have := (List.pairwise_iff_getElem.1 hnd) j k (by omega) hk hj;exact this e
  simp only [renOf];rw [if_neg (by omega), this]; rfl
theorem zcU (hc : Closed H) {H1 : AHeap} (h1 : ∀ b x, H.get b = some x → H1.get b = some x) {v : Value} (hv : flatD 8 v = true) : Tidy H v H1 v H :=
 zdz (H0 := H) (ys := []) (zeh hc h1 .nil (by simp) rfl (by simp)) (zeE 8 hv)
theorem zf2 (hc : Closed H) {H1 : AHeap} (h1 : ∀ b x, H.get b = some x → H1.get b = some x) {b : Nat} {cs : List Value} {z : Nat} {s ro : Bool} (hb : b % 2 = 0 ∧ H.fresh ≤ b)
  (hg : H1.get b = some (.cells cs z s ro)) (hf : cs.all (flatD 8) = true) {v1 v2 : Value} (hv : renV (renOf H [b]) 8 v1 = some v2) : Tidy H v1 H1 v2 (H.add (.cells cs z s ro)) := by
 refine zdz (H0 := H) (ys := [.cells cs z s ro]) (zeh hc h1 (l := [b]) (by simp) (by simpa using hb) rfl ?_) hv;intro k c y hk hy
 cases k with
 | zero =>
  simp only [List.getElem?_cons_zero, Option.some.injEq] at hk hy;subst hk; subst hy
  exact ⟨_, hg, zc3 hf⟩
 | succ k => simp at hk
theorem zbw {b : Nat} (hb : b % 2 = 0 ∧ H.fresh ≤ b) : renOf H [b] b = some H.fresh := by
 simp only [renOf];rw [if_neg (by omega)];simp [List.findIdx?, List.findIdx?.go]
end
end Go.Den
end
noncomputable section
namespace Go.Den
theorem ctx_fn {P : Program} {f : FuncId} {fn : Func} (h : P.funcs[f]? = some fn) : (ctxOf P).fn.get f = some fn := by
 show (Tr.ofList P.funcs.toList).get f = some fn;rw [Tr.zcs]; simpa using h
class PC (P : Program) : Prop where
 ok : CtxOk P (ctxOf P)
def szOf (P : Program) (t : TypeId) : Option (Nat × Bool) := match tyOf P t with
 | some i => some (i.size, isAggD i.und)
 | none => none
def fldOf (P : Program) (s : TypeId) (f : Nat) : Option (Nat × Nat × Bool) := match tyOf P s with
 | some ti => match ti.und with
  | .struct fs => match fs.toList[f]? with
   | some fd => match szOf P fd.type with
    | some (n, a) => some (fd.offset, n, a)
    | none => none
   | none => none
  | _ => none
 | none => none
def selOf (P : Program) (t : TypeId) : Option (Nat × Bool) := match tyOf P t with
 | some ti => match ti.und with
  | .slice e => szOf P e
  | _ => none
 | none => none
def aelOf (P : Program) (t : TypeId) : Option (Nat × Nat × Bool) := match tyOf P t with
 | some ti => match ti.und with
  | .array n e => match szOf P e with
   | some (m, a) => some (n, m, a)
   | none => none
  | _ => none
 | none => none
def zerOf (P : Program) (t : TypeId) : Option (List Value) := match tyOf P t with
 | some ti => zerosOf ti
 | none => none
def intOf (P : Program) (t : TypeId) : Option IntKind := match tyOf P t with
 | some ti => match ti.und with
  | .int k => some k
  | _ => none
 | none => none
def strOf (P : Program) (t : TypeId) : Bool := match tyOf P t with
 | some ti => match ti.und with
  | .string => true
  | _ => false
 | none => false
def pt (a : Bool) (n : Nat) (cs : List Value) (o : Nat) : Option Value := match a with
 | true => match sliceIn cs o n with
  | some l => some (.agg ⟨l⟩)
  | none => none
 | false => cs[o]?
theorem zbr {P : Program} {t : TypeId} {n : Nat} {a : Bool} (h : szOf P t = some (n, a)) : ∃ i, (ctxOf P).ty.get t = some i ∧ i.size = n ∧ isAggD i.und = a := by
 unfold szOf at h;split at h
 ·rename_i i hi; cases h; exact ⟨i, zbJ hi, rfl, rfl⟩
 ·cases h
theorem zbI {P : Program} {t : TypeId} {n : Nat} {a : Bool} (h : selOf P t = some (n, a)) : ∃ ti e ei, (ctxOf P).ty.get t = some ti ∧ ti.und = .slice e ∧ (ctxOf P).ty.get e = some ei ∧ ei.size = n ∧ isAggD ei.und = a := by
 unfold selOf at h;split at h
 ·rename_i ti hti;split at h
  ·rename_i e he;obtain ⟨ei, h1, h2, h3⟩ := zbr h;exact ⟨ti, e, ei, zbJ hti, he, h1, h2, h3⟩
  ·cases h
 ·cases h
theorem zh7 {P : Program} {t : TypeId} {m n : Nat} {a : Bool} (h : aelOf P t = some (m, n, a)) : ∃ ti e ei, (ctxOf P).ty.get t = some ti ∧ ti.und = .array m e ∧ (ctxOf P).ty.get e = some ei ∧ ei.size = n ∧ isAggD ei.und = a := by
 unfold aelOf at h;split at h
 ·rename_i ti hti;split at h
  ·rename_i k e he;split at h
   ·rename_i m' a' hs;cases h;obtain ⟨ei, h1, h2, h3⟩ := zbr hs;exact ⟨ti, e, ei, zbJ hti, he, h1, h2, h3⟩
   ·cases h
  ·cases h
 ·cases h
theorem zm0 {P : Program} {s : TypeId} {f o n : Nat} {a : Bool} (h : fldOf P s f = some (o, n, a)) : ∃ fd fi, fieldsAt (ctxOf P) s f = some (fd, fi) ∧ fd.offset = o ∧ fi.size = n ∧ isAggD fi.und = a := by
 unfold fldOf at h;split at h
 ·rename_i ti hti;split at h
  ·rename_i fs hfs;split at h
   ·rename_i fd hfd;split at h
    ·rename_i n' a' hs;cases h;obtain ⟨fi, h1, h2, h3⟩ := zbr hs;refine ⟨fd, fi, ?_, rfl, h2, h3⟩;have hfd' : fs[f]? = some fd := by simpa using hfd
     simp only [fieldsAt, zbJ hti, hfs, hfd', h1]
    ·cases h
   ·cases h
  ·cases h
 ·cases h
theorem zcT {P : Program} {t : TypeId} {z : List Value} (h : zerOf P t = some z) : ∃ ti, (ctxOf P).ty.get t = some ti ∧ zerosOf ti = some z := by
 unfold zerOf at h;split at h
 ·rename_i ti hti; exact ⟨ti, zbJ hti, h⟩
 ·cases h
theorem ziq {i : TI} {n : Nat} {a : Bool} (h1 : i.size = n) (h2 : isAggD i.und = a) (cs : List Value) (o : Nat) : partA i cs o = pt a n cs o := by
 subst h1; subst h2;unfold partA pt
 cases isAggD i.und with
 | true => simp only [if_true]; cases sliceIn cs o i.size <;> rfl
 | false => simp
section
variable {P : Program} {l : EL} {h : AHeap}
structure Does (P : Program) (l : EL) (op : Op) (h : AHeap) (v : Value) (h' : AHeap) : Prop where
 out : opA P (ctxOf P) (ofA l) op h = some [(v, h')]
theorem ziJ {x : Operand} {v : Value} (hx : ev l x = some v) : Does P l (.move x) h v h := by
 refine ⟨?_⟩;simp only [opA, zaE, hx, oneO]
theorem zhe {x : Operand} {v : Value} (hx : ev l x = some v) : Does P l (.assign x) h v h := by
 refine ⟨?_⟩;simp only [opA, zaE, hx, oneO]
theorem zeZ {c a b : Operand} {v : Value} (hc : ev l c = some (.bool true)) (ha : ev l a = some v) : Does P l (.pick c a b) h v h := by
 refine ⟨?_⟩;simp only [opA, zaE, hc, ha, oneO, if_true]
theorem ze0 {c a b : Operand} {v : Value} (hc : ev l c = some (.bool false)) (hb : ev l b = some v) : Does P l (.pick c a b) h v h := by
 refine ⟨?_⟩;simp only [opA, zaE, hc, hb, oneO, Bool.false_eq_true, if_false]
theorem zaw {t : TypeId} {a : Operand} {b o n z : Nat} {ag s ro : Bool} {cs : List Value} {v : Value} (ha : ev l a = some (.pointer (some ⟨b, o, none⟩))) (hb : h.get b = some (.cells cs z s ro))
  (ht : szOf P t = some (n, ag)) (hv : pt ag n cs o = some v) : Does P l (.load t a) h v h := by
 obtain ⟨i, h1, h2, h3⟩ := zbr ht;refine ⟨?_⟩;simp only [opA, zaE, ha, loadA, hb, h1];have := ziq h2 h3 cs o;unfold partA at this;rw [this, hv]; rfl
def stl (n : Nat) (cs : List Value) (o : Nat) (v : Value) : Option (List Value) := match Nat.beq v.cells.toList.length n with
 | true => match v.cells.toList.all oneCell with
  | true => writeAt cs o v.cells.toList
  | false => none
 | false => none
theorem zav {t : TypeId} {a x : Operand} {b o n z : Nat} {ag s : Bool} {cs cs' : List Value} {v : Value} (ha : ev l a = some (.pointer (some ⟨b, o, none⟩))) (hx : ev l x = some v) (hb : h.get b = some (.cells cs z s false))
  (ht : szOf P t = some (n, ag)) (hv : stl n cs o v = some cs') (hob : own b = true) : Does P l (.store t a x) h undefV (h.put b (.cells cs' z s false)) := by
 obtain ⟨i, h1, h2, h3⟩ := zbr ht;unfold stl at hv;split at hv
 ·rename_i e1;split at hv
  ·rename_i e2;have e1' := Nat.eq_of_beq_eq_true e1;refine ⟨?_⟩;simp only [opA, zaE, ha, hx, storeA, hb, h1, h2];rw [if_pos (by simp [e1', e2, hob]), hv]; rfl
  ·cases hv
 ·cases hv
theorem zgj {t : TypeId} {z : List Value} (ht : zerOf P t = some z) (hz : z.all oneCell = true) : Does P l (.alloc t) h (.pointer (some ⟨h.fresh, 0, none⟩)) (h.add (.cells z 0 false false)) := by
 obtain ⟨ti, h1, h2⟩ := zcT ht;refine ⟨?_⟩;simp only [opA, allocA, h1, h2, newA, hz, if_true]; rfl
theorem do_box {t : TypeId} {x : Operand} {v : Value} {n : Nat} {ag : Bool} (hx : ev l x = some v) (ht : szOf P t = some (n, ag)) (hz : v.cells.toList.all oneCell = true) :
  Does P l (.box t x) h (.pointer (some ⟨h.fresh, 0, none⟩)) (h.add (.cells v.cells.toList 0 false false)) := by
 obtain ⟨i, h1, _, _⟩ := zbr ht;refine ⟨?_⟩;simp only [opA, zaE, hx, h1, newA, hz, if_true]; rfl
def plc (P : Program) (t : TypeId) : Option (List (Nat × Nat)) := match tyOf P t with
 | some ti => match ti.und with
  | .struct fs => go fs.toList
  | .array n e => match szOf P e with
   | some (m, _) => some ((List.range n).map fun i => (i * m, m))
   | none => none
  | _ => none
 | none => none
where
 go : List Field → Option (List (Nat × Nat))
  | [] => some []
  | f :: r => match szOf P f.type with
   | some (n, _) => match go r with
    | some l => some ((f.offset, n) :: l)
    | none => none
   | none => none
theorem plc_go {fs : List Field} {pl : List (Nat × Nat)} (h : plc.go P fs = some pl) : fs.all (fun f => ((ctxOf P).ty.get f.type).isSome) = true ∧ ∀ k : Nat, pl[k]? = (fs[k]?).bind fun f => ((ctxOf P).ty.get f.type).map fun fi => (f.offset, fi.size) := by
 induction fs generalizing pl with
 | nil => simp only [plc.go] at h; cases h; exact ⟨rfl, fun k => by simp⟩
 | cons f r ih =>
  simp only [plc.go] at h;split at h
  ·rename_i n a hs;split at h
   ·rename_i l hl;cases h;obtain ⟨fi, h1, h2, _⟩ := zbr hs;obtain ⟨i1, i2⟩ := ih hl;refine ⟨by simp only [List.all_cons, h1, i1]; rfl, fun k => ?_⟩
    cases k with
    | zero => simp [h1, h2]
    | succ k => simpa using i2 k
   ·cases h
  ·cases h
def fillP : List Value → List (Nat × Nat) → List (Nat × Value) → Option (List Value)
 | cs, _, [] => some cs
 | cs, pl, (i, v) :: rest => match pl[i]? with
  | some (o, n) => match Nat.beq v.cells.toList.length n with
   | true => match Nat.beq n 0 with
    | false => match writeAt cs o v.cells.toList with
     | some cs' => fillP cs' pl rest
     | none => none
    | true => none
   | false => none
  | none => none
theorem zkv {pl : List (Nat × Nat)} {place : Nat → Option (Nat × Nat)} (hp : ∀ i x, pl[i]? = some x → place i = some x) : ∀ {ps : List (Nat × Value)} {cs r : List Value}, fillP cs pl ps = some r → fillA cs place ps = some r := by
 intro ps
 induction ps with
 | nil => intro cs r h; exact h
 | cons a rest ih =>
  obtain ⟨i, v⟩ := a;intro cs r h;simp only [fillP] at h;split at h
  ·rename_i o n hi;split at h
   ·rename_i e1;split at h
    ·rename_i e2;split at h
     ·rename_i cs' hw;have e1' := Nat.eq_of_beq_eq_true e1;have e2' := Nat.ne_of_beq_eq_false e2;simp only [fillA, hp _ _ hi];rw [if_pos (by simp [e1', e2']), hw];exact ih h
     ·cases h
    ·cases h
   ·cases h
  ·cases h
theorem ze1 {t : TypeId} {ps : Array (Nat × Operand)} {vs : List (Nat × Value)} {z r : List Value} {pl : List (Nat × Nat)} (hz : zerOf P t = some z) (hpl : plc P t = some pl) (hp : evp l ps.toList = some vs) (hf : fillP z pl vs = some r) :
  Does P l (.build t ps) h (.agg ⟨r⟩) h := by
 obtain ⟨ti, h1, h2⟩ := zcT hz
 have key : buildA (ctxOf P) t vs = some (.agg ⟨r⟩) := by
  unfold plc at hpl;split at hpl
  ·rename_i ti' hti;have : ti' = ti := by have := zbJ hti; rw [h1] at this; cases this; rfl
   subst this;unfold buildA;simp only [h1, h2];split at hpl
   ·rename_i fs hfs;obtain ⟨g1, g2⟩ := plc_go hpl;simp only [hfs];rw [if_pos g1];rw [zkv (fun i x hx => ?_) hf]
    ·rfl
    ·rw [g2] at hx
     cases hfi : fs.toList[i]? with
     | none => rw [hfi] at hx; cases hx
     | some f =>
      rw [hfi] at hx;have hfi' : fs[i]? = some f := by simpa using hfi
      simp only [Option.bind_some] at hx;simp only [hfi']
      cases hg : (ctxOf P).ty.get f.type with
      | none => rw [hg] at hx; cases hx
      | some fi => rw [hg] at hx; simpa using hx
   ·rename_i n e hne;split at hpl
    ·rename_i m a hs;cases hpl;obtain ⟨ei, k1, k2, _⟩ := zbr hs;simp only [hne, k1];rw [zkv (fun i x hx => ?_) hf]
     ·rfl
     ·simp only [List.getElem?_map, Option.map_eq_some_iff] at hx;obtain ⟨j, hj, rfl⟩ := hx
      have : j = i := by
       have := List.getElem?_eq_some_iff.1 hj;obtain ⟨_, h⟩ := this;simpa using h.symm
      subst this; subst k2; rfl
    ·cases hpl
   ·cases hpl
  ·cases hpl
 refine ⟨?_⟩;simp only [opA, zfv, hp, key, oneO]
theorem zaM {t : TypeId} {n : Nat} {ps : Array (Nat × Operand)} {vs : List (Nat × Value)} {m : Nat} {ag : Bool} {z r : List Value} {e : TypeId} (hs : selOf P t = some (m, ag)) (he : (tyOf P t).map (·.und) = some (.slice e)) (hz : zerOf P e = some z) (hp : evp l ps.toList = some vs)
  (hf : fillP (repl z n) ((List.range n).map fun i => (i * m, m)) vs = some r) (hn : Nat.ble (n * m) (2 ^ 24) = true) (hr : r.all oneCell = true) :
  Does P l (.buildSlice t n ps) h (.slice (some ⟨h.fresh, 0, none⟩) n n) (h.add (.cells r m false false)) := by
 obtain ⟨ti, e', ei, h1, h2, h3, h4, h5⟩ := zbI hs;obtain ⟨ez, k1, k2⟩ := zcT hz
 have : e' = e := by
  cases hti : tyOf P t with
  | none => rw [hti] at he; cases he
  | some ti' =>
   rw [hti] at he;have := zbJ hti;rw [h1] at this; cases this;simp only [Option.map_some, Option.some.injEq] at he;rw [h2] at he; cases he; rfl
 subst this;rw [h3] at k1; cases k1
 have hA := zkv (place := fun i => some (i * m, m)) (fun i x hx => by
  simp only [List.getElem?_map, Option.map_eq_some_iff] at hx;obtain ⟨j, hj, rfl⟩ := hx
  have : j = i := by
   have := List.getElem?_eq_some_iff.1 hj;obtain ⟨_, h⟩ := this;simpa using h.symm
  subst this; rfl) hf
 refine ⟨?_⟩;simp only [opA, zfv, hp, buildSliceA, h1, h2, h3, k2, h4];rw [if_neg (by have := Nat.le_of_ble_eq_true hn; omega), hA];simp only [hr, if_true]; rfl
theorem za5 {op : BinOp} {t t' : TypeId} {x y : Operand} {k : IntKind} {a b : Int} {v : Value} (hx : ev l x = some (.int k a)) (hy : ev l y = some (.int k b)) (hv : intBin op k a b = some v) (hop : match op with | .shl | .shr => False | _ => True) :
  Does P l (.binOp op t x y t') h v h := by
 have : binA P (ctxOf P) op t (.int k a) (.int k b) = some v := by
  cases op <;> first | exact hop.elim | (simp only [binA, if_true]; exact hv)
 refine ⟨?_⟩;simp only [opA, zaE, hx, hy, this, oneO]
theorem zbV {op : BinOp} {t t' : TypeId} {x y : Operand} {a b : ByteArray} {v : Value} (hx : ev l x = some (.string a)) (hy : ev l y = some (.string b)) (hv : strBin op a b = some v) : Does P l (.binOp op t x y t') h v h := by
 have : binA P (ctxOf P) op t (.string a) (.string b) = some v := by
  cases op <;> first | exact hv | (simp [strBin] at hv)
 refine ⟨?_⟩;simp only [opA, zaE, hx, hy, this, oneO]
theorem zdU {t t' : TypeId} {x y : Operand} {a b : Value} {r : Bool} (hx : ev l x = some a) (hy : ev l y = some b) (ha : match a with | .int _ _ | .string _ => False | _ => True) (hr : eqA P (ctxOf P) t a b = some r) : Does P l (.binOp .eql t x y t') h (.bool r) h := by
 have : binA P (ctxOf P) .eql t a b = some (.bool r) := by
  unfold binA
  split <;> first
   | (rename_i e; cases e; done)
   | (exfalso; exact ha)
   | (simp only [hr]; rfl)
   | skip
  all_goals first | (simp_all; done) | skip
 refine ⟨?_⟩;simp only [opA, zaE, hx, hy, this, oneO]
theorem zrH {t t' : TypeId} {x y : Operand} {a b : Value} {r : Bool} (hx : ev l x = some a) (hy : ev l y = some b) (ha : match a with | .int _ _ | .string _ => False | _ => True) (hr : eqA P (ctxOf P) t a b = some r) : Does P l (.binOp .neq t x y t') h (.bool (!r)) h := by
 have : binA P (ctxOf P) .neq t a b = some (.bool (!r)) := by
  unfold binA
  split <;> first
   | (rename_i e; cases e; done)
   | (exfalso; exact ha)
   | (simp only [hr]; rfl)
   | skip
  all_goals first | (simp_all; done) | skip
 refine ⟨?_⟩;simp only [opA, zaE, hx, hy, this, oneO]
theorem zeo {op : UnOp} {t : TypeId} {x : Operand} {a v : Value} (hx : ev l x = some a) (hv : unA op a = some v) : Does P l (.unOp op t x) h v h := by
 refine ⟨?_⟩;simp only [opA, zaE, hx, hv, oneO]
theorem zd8 {s d : TypeId} {x : Operand} {k k' : IntKind} {n : Int} (hx : ev l x = some (.int k n)) (hs : (szOf P s).isSome = true) (hd : intOf P d = some k') : Does P l (.convert s d x) h (.int k' (k'.wrap n)) h := by
 cases hz : szOf P s with
 | none => rw [hz] at hs; cases hs
 | some z =>
  obtain ⟨i, h1, _⟩ := zbr (n := z.1) (a := z.2) hz;unfold intOf at hd;split at hd
  ·rename_i ti hti;split at hd
   ·rename_i k2 hk;cases hd;refine ⟨?_⟩;simp only [opA, zaE, hx, convA, h1, zbJ hti, hk, oneO]; rfl
   ·cases hd
  ·cases hd
theorem zdq {g : FuncId} {a b : Array Operand} {x y : List Value} (ha : evs l a.toList = some x) (hb : evs l b.toList = some y) : Does P l (.makeFunc (.func g) a b) h (.func (.func g) ⟨x⟩ ⟨y⟩) h := by
 refine ⟨?_⟩;simp only [opA, zeU, ha, hb, oneO]
theorem zcO {t : TypeId} {a b : Operand} {k k' : IntKind} {n c : Nat} {m : Nat} {ag : Bool} {z : List Value} {e : TypeId} {by' : Nat} (ha : ev l a = some (.int k n)) (hb : ev l b = some (.int k' c)) (hs : selOf P t = some (m, ag)) (he : (tyOf P t).map (·.und) = some (.slice e)) (hz : zerOf P e = some z) (hby : (tyOf P e).map (·.bytes) = some by') (h1 : n ≤ c) (h2 : c ≤ 1000000000000) (h3 : by' * c ≤ 2 ^ 48) :
  Does P l (.makeSlice t a b) h (.slice (some ⟨h.fresh, 0, none⟩) n c) (h.add (.cells (repl z c) m false false)) := by
 obtain ⟨ti, e', ei, g1, g2, g3, g4, g5⟩ := zbI hs;obtain ⟨ez, k1, k2⟩ := zcT hz
 have : e' = e := by
  cases hti : tyOf P t with
  | none => rw [hti] at he; cases he
  | some ti' =>
   rw [hti] at he;have := zbJ hti;rw [g1] at this; cases this;simp only [Option.map_some, Option.some.injEq] at he;rw [g2] at he; cases he; rfl
 subst this;rw [g3] at k1; cases k1
 have hbe : ei.bytes = by' := by
  cases hti : tyOf P e' with
  | none => rw [hti] at hby; cases hby
  | some x =>
   rw [hti] at hby;have := zbJ hti;rw [g3] at this; cases this;simpa using hby
 refine ⟨?_⟩;simp only [opA, zaE, ha, hb, makeSliceA, g1, g2, g3, k2, g4, hbe];have h4' : ((by' : Int)) * (c : Int) ≤ 2 ^ 48 := by exact_mod_cast h3
 rw [if_pos ⟨by omega, by omega, by omega, h4'⟩];simp
theorem zbh {s : TypeId} {x : Operand} {f b o p n : Nat} {ag : Bool} (hx : ev l x = some (.pointer (some ⟨b, o, none⟩))) (hf : fldOf P s f = some (p, n + 1, ag)) : Does P l (.fieldAddr s x f) h (.pointer (some ⟨b, o + p, none⟩)) h := by
 obtain ⟨fd, fi, h1, h2, h3, _⟩ := zm0 hf;refine ⟨?_⟩;simp only [opA, zaE, hx, fieldAddrA, h1, h3, oneO, addOff, h2];simp
theorem zaR {t : TypeId} {x i : Operand} {b o n c m j : Nat} {ag : Bool} {iv : Value} (hx : ev l x = some (.slice (some ⟨b, o, none⟩) n c)) (hi : ev l i = some iv) (hs : selOf P t = some (m, ag)) (hj : idx iv n = some j) :
  Does P l (.indexAddr t x i) h (.pointer (some ⟨b, o + j * m, none⟩)) h := by
 obtain ⟨ti, e, ei, h1, h2, h3, h4, h5⟩ := zbI hs;refine ⟨?_⟩;simp only [opA, zaE, hx, hi, indexAddrA, h1, h2, hj, h3, oneO, addOff, h4]
theorem zaL {t : TypeId} {x i : Operand} {b o n m j : Nat} {ag : Bool} {iv : Value} (hx : ev l x = some (.pointer (some ⟨b, o, none⟩))) (hi : ev l i = some iv) (hs : aelOf P t = some (n, m, ag)) (hj : idx iv n = some j) :
  Does P l (.indexAddr t x i) h (.pointer (some ⟨b, o + j * m, none⟩)) h := by
 obtain ⟨ti, e, ei, h1, h2, h3, h4, h5⟩ := zh7 hs;refine ⟨?_⟩;simp only [opA, zaE, hx, hi, indexAddrA, h1, h2, hj, h3, oneO, addOff, h4]
theorem zhd {t : TypeId} {x i : Operand} {j : Nat} {iv : Value} {s : ByteArray} {b : UInt8} (hx : ev l x = some (.string s)) (hi : ev l i = some iv) (hs : strOf P t = true) (hj : idx iv s.size = some j) (hv : s.data.toList[j]? = some b) :
  Does P l (.index t x i) h (.int .u8 b.toNat) h := by
 unfold strOf at hs;split at hs
 ·rename_i ti hti;split at hs
  ·rename_i hk;refine ⟨?_⟩;simp only [opA, zaE, hx, hi, indexA, zbJ hti, hk, hj, hv, oneO]
  ·cases hs
 ·cases hs
theorem zd7 {t : Operand} {i : Nat} {vs : Array Value} {v : Value} (hx : ev l t = some (.tuple vs)) (hv : vs.toList[i]? = some v) : Does P l (.extract t i) h v h := by
 refine ⟨?_⟩;simp only [opA, zaE, hx, hv, oneO]
def evO (l : EL) : Option Operand → Option (Option Value)
 | none => some none
 | some x => match ev l x with
  | some v => some (some v)
  | none => none
theorem zkx (x : Option Operand) : opA.evalOpt (ofA l) x = evO l x := by
 cases x with
 | none => rfl
 | some x => simp only [opA.evalOpt, evO, zaE]; cases ev l x <;> rfl
theorem ziI {t : TypeId} {x : Operand} {lo hi mx : Option Operand} {a v : Value} {p q r : Option Value} (hx : ev l x = some a) (h1 : evO l lo = some p) (h2 : evO l hi = some q) (h3 : evO l mx = some r) (hv : sliceA (ctxOf P) h t a p q r = some v) :
  Does P l (.slice t x lo hi mx) h v h := by
 refine ⟨?_⟩;simp only [opA, zaE, zkx, hx, h1, h2, h3, hv, oneO]
theorem zca {b : Builtin} {args : Array Operand} {tys : Array TypeId} {vs : List Value} {v : Value} {h' : AHeap} (ha : evs l args.toList = some vs) (hv : biA (ctxOf P) h b tys.toList vs = some (v, h')) :
  Does P l (.call ⟨.builtin b, args, tys⟩) h v h' := by
 refine ⟨?_⟩;simp only [opA, zeU, ha, hv]; rfl
theorem bi_lenS {t : TypeId} {r : List TypeId} {b : Option Addr} {n c : Nat} {vs : List Value} {m : Nat} {ag : Bool} (ht : selOf P t = some (m, ag)) : biA (ctxOf P) h .len (t :: r) (.slice b n c :: vs) = some (.int .i64 n, h) := by
 obtain ⟨ti, e, ei, h1, h2, h3, h4, h5⟩ := zbI ht;simp only [biA, lenA, h1, h2]; rfl
theorem zpE {t : TypeId} {r : List TypeId} {s : ByteArray} {vs : List Value} (ht : strOf P t = true) : biA (ctxOf P) h .len (t :: r) (.string s :: vs) = some (.int .i64 s.size, h) := by
 unfold strOf at ht;split at ht
 ·rename_i ti hti;split at ht
  ·rename_i hk;simp only [biA, lenA, zbJ hti, hk]; rfl
  ·cases ht
 ·cases ht
theorem zpp {args : Array Operand} {tys : Array TypeId} {t : TypeId} {r : List TypeId} {b : Option Addr} {n c : Nat} {vs : List Value} {m : Nat} {ag : Bool} (ha : evs l args.toList = some (.slice b n c :: vs)) (hty : tys.toList = t :: r) (ht : selOf P t = some (m, ag)) :
  Does P l (.call ⟨.builtin .len, args, tys⟩) h (.int .i64 n) h :=
 zca ha (by rw [hty]; exact bi_lenS ht)
theorem zbA {args : Array Operand} {tys : Array TypeId} {t : TypeId} {r : List TypeId} {s : ByteArray} {vs : List Value} (ha : evs l args.toList = some (.string s :: vs)) (hty : tys.toList = t :: r) (ht : strOf P t = true) :
  Does P l (.call ⟨.builtin .len, args, tys⟩) h (.int .i64 s.size) h :=
 zca ha (by rw [hty]; exact zpE ht)
end
end Go.Den
end
noncomputable section
namespace Go.Den
def SeqL0 (P : Program) (rd : Option Nat) (nt : Nat) (ops : Array Oper) : List Oper → Nat → St → (St → Prop) → Prop
 | [], _, s, K => K s
 | o :: r, i, s, K => ops[i]? = some o → OpT P rd nt ops i s (fun s' => SeqL0 P rd nt ops r (i + 1) s' K)
structure SeqL (P : Program) (rd : Option Nat) (nt : Nat) (ops : Array Oper) (l : List Oper) (i : Nat) (s : St) (K : St → Prop) : Prop where
 out : SeqL0 P rd nt ops l i s K
section
variable {P : Program} {rd : Option Nat} {nt : Nat} {ops : Array Oper}
theorem zfe {K K' : St → Prop} (hk : ∀ s, K s → K' s) : ∀ {l : List Oper} {i : Nat} {s : St}, SeqL0 P rd nt ops l i s K → SeqL0 P rd nt ops l i s K'
 | [], _, s, h => hk s h
 | _ :: _, _, _, h => fun ho => (h ho).mono fun _ hs => zfe hk hs
structure CT (P : Program) (rd : Option Nat) (nt : Nat) (c : Code) (s : St) (Qn : St → Prop) (Qe : Nat → St → Prop) (Qr : St → Prop) : Prop where
 out : CodeT P rd nt c s fun x s' => match x with
  | .normal => Qn s'
  | .exit i => Qe i s'
  | .ret => Qr s'
structure LT (P : Program) (rd : Option Nat) (nt : Nat) (c : Code) (s : St) (Qe : Nat → St → Prop) (Qr : St → Prop) : Prop where
 out : LoopT P rd nt c s fun x s' => match x with
  | .normal => False
  | .exit i => Qe i s'
  | .ret => Qr s'
structure exitTo (id : Nat) (Qn : St → Prop) (Qe : Nat → St → Prop) (i : Nat) (s : St) : Prop where
 out : match Nat.beq i id with
 | true => Qn s
 | false => Qe i s
variable {s : St} {Qn : St → Prop} {Qe : Nat → St → Prop} {Qr : St → Prop}
theorem zaq {id i : Nat} (h : Nat.beq i id = true) (hq : Qn s) : exitTo id Qn Qe i s := ⟨by rw [h]; exact hq⟩
theorem exit_ne {id i : Nat} (h : Nat.beq i id = false) (hq : Qe i s) : exitTo id Qn Qe i s := ⟨by rw [h]; exact hq⟩
theorem zc8 {id : Nat} {l : List Oper} (h : SeqL P rd nt ⟨l⟩ l 0 s Qn) : CT P rd nt (.region id ⟨l⟩ false) s Qn Qe Qr := by
 refine ⟨zfS (T := fun i s' => SeqL0 P rd nt ⟨l⟩ (l.drop i) i s' Qn) (by simpa using h.out) ?_ ?_⟩
 ·intro i s1 hi h1;have hi' : i < l.length := by simpa using hi
  rw [List.drop_eq_getElem_cons hi'] at h1;exact h1 (by simp [hi'])
 ·intro s1 h1;have : l.drop (Array.size ⟨l⟩) = [] := by simp
  rw [this] at h1;exact h1
theorem zcj {a b : Code} (h : CT P rd nt a s (fun s' => CT P rd nt b s' Qn Qe Qr) Qe Qr) : CT P rd nt (.seq a b) s Qn Qe Qr :=
 ⟨zjP h.out (fun _ hs => hs.out) fun e s' he hne => by
  cases e with
  | normal => exact absurd rfl hne
  | exit i => exact he
  | ret => exact he⟩
theorem zbb (h : Qn s) : CT P rd nt .skip s Qn Qe Qr := ⟨zhY h⟩
theorem zaV (h : Qr s) : CT P rd nt .ret s Qn Qe Qr := ⟨zjQ h⟩
theorem zap {id : Nat} (h : Qe id s) : CT P rd nt (.exit id) s Qn Qe Qr := ⟨zh0 h⟩
theorem zlL {id : Nat} {b : Code} (h : CT P rd nt b s Qn (exitTo id Qn Qe) Qr) : CT P rd nt (.block id b) s Qn Qe Qr :=
 ⟨zhg h.out (fun s' hs => by have := hs.out; simpa using this) fun e s' he hne => by
  cases e with
  | normal => exact he
  | exit i =>
   have hi : Nat.beq i id = false := by
    cases hb : Nat.beq i id with
    | false => rfl
    | true => exact absurd (by rw [Nat.eq_of_beq_eq_true hb]) hne
   have he' : exitTo id Qn Qe i s' := he;have he' := he'.out;rw [hi] at he'
   exact he'
  | ret => exact he⟩
theorem zar {b : Code} (h : LT P rd nt b s Qe Qr) : CT P rd nt (.loop b) s Qn Qe Qr :=
 ⟨zhZ (h.out.mono fun x s' hx => by
  cases x with
  | normal => exact hx.elim
  | exit i => exact hx
  | ret => exact hx)⟩
theorem zdK {b : Code} (h : CT P rd nt b s (fun s' => LT P rd nt b s' Qe Qr) Qe Qr) : LT P rd nt b s Qe Qr :=
 ⟨zlm h.out (fun _ hs => hs.out) fun e s' he hne => by
  cases e with
  | normal => exact absurd rfl hne
  | exit i => exact he
  | ret => exact he⟩
theorem CT.mono {c : Code} {Qn' : St → Prop} {Qe' : Nat → St → Prop} {Qr' : St → Prop} (h : CT P rd nt c s Qn Qe Qr) (h1 : ∀ s, Qn s → Qn' s) (h2 : ∀ i s, Qe i s → Qe' i s) (h3 : ∀ s, Qr s → Qr' s) : CT P rd nt c s Qn' Qe' Qr' :=
 ⟨CodeT.mono h.out fun x s' hx => by
  cases x with
  | normal => exact h1 _ hx
  | exit i => exact h2 _ _ hx
  | ret => exact h3 _ hx⟩
variable {l : EL} {ds : List Nat} {h : AHeap}
theorem zai {c : Operand} {a b : Code} {t : Bool} (hc : ev l c = some (.bool t)) (h1 : t = true → CT P rd nt a ⟨ofA l, ds, h⟩ Qn Qe Qr) (h2 : t = false → CT P rd nt b ⟨ofA l, ds, h⟩ Qn Qe Qr) : CT P rd nt (.cond c a b) ⟨ofA l, ds, h⟩ Qn Qe Qr := by
 refine ⟨zh3 (t := t) (by rw [← hc]; exact zaE l c) ?_⟩
 cases t with
 | true => exact (h1 rfl).out
 | false => exact (h2 rfl).out
theorem zam {c : Operand} {a b : Code} {t : Bool} (hc : ev l c = some (.bool t)) (ht : t = true) (h1 : CT P rd nt a ⟨ofA l, ds, h⟩ Qn Qe Qr) : CT P rd nt (.cond c a b) ⟨ofA l, ds, h⟩ Qn Qe Qr :=
 zai hc (fun _ => h1) (fun e => by rw [ht] at e; cases e)
theorem zah {c : Operand} {a b : Code} {t : Bool} (hc : ev l c = some (.bool t)) (ht : t = false) (h1 : CT P rd nt b ⟨ofA l, ds, h⟩ Qn Qe Qr) : CT P rd nt (.cond c a b) ⟨ofA l, ds, h⟩ Qn Qe Qr :=
 zai hc (fun e => by rw [ht] at e; cases e) (fun _ => h1)
def Sub (l' l : EL) : Prop := ∀ t v, lk l' t = some v → lk l t = some v
theorem zbi : Sub [] l := fun t v h => by simp [lk] at h
theorem za0 {t : Nat} {v : Value} {l' : EL} (h : lk l t = some v) (hs : Sub l' l) : Sub ((t, v) :: l') l := by
 intro k u hu;simp only [lk] at hu
 cases hb : Nat.beq t k with
 | true => rw [hb] at hu; cases hu; rw [← Nat.eq_of_beq_eq_true hb]; exact h
 | false => rw [hb] at hu; exact hs k u hu
theorem zde : Sub l l := fun _ _ h => h
theorem Sub.ofA {l' : EL} (h : Sub l' l) : ∀ t v, (ofA l').get t = some v → (ofA l).get t = some v := fun t v hv => by
 rw [zaG] at hv ⊢; exact h t v hv
theorem zcH {c : Code} {l' : EL} {h' : AHeap} (he : Sub l' l) (q : HQ h h') (p : CT P rd nt c ⟨ofA l', ds, h'⟩ Qn Qe Qr) : CT P rd nt c ⟨ofA l, ds, h⟩ Qn Qe Qr := ⟨CodeT.to he.ofA q p.out⟩
theorem zaN {c : Code} {l' : EL} {h' : AHeap} (he : Sub l' l) (q : HQ h h') (p : LT P rd nt c ⟨ofA l', ds, h'⟩ Qe Qr) : LT P rd nt c ⟨ofA l, ds, h⟩ Qe Qr := ⟨LoopT.to he.ofA q p.out⟩
theorem zbn {c : Code} {l' : EL} (he : Sub l' l) (p : LT P rd nt c ⟨ofA l', ds, h⟩ Qe Qr) : LT P rd nt c ⟨ofA l, ds, h⟩ Qe Qr := zaN he (.refl _) p
theorem zef {c : Code} {l' : EL} (he : Sub l' l) (p : CT P rd nt c ⟨ofA l', ds, h⟩ Qn Qe Qr) : CT P rd nt c ⟨ofA l, ds, h⟩ Qn Qe Qr := zcH he (.refl _) p
theorem zcy {lo : List Oper} {i : Nat} {l' : EL} {h' : AHeap} {K : St → Prop} (he : Sub l' l) (q : HQ h h') (hne : lo ≠ []) (p : SeqL P rd nt ops lo i ⟨ofA l', ds, h'⟩ K) : SeqL P rd nt ops lo i ⟨ofA l, ds, h⟩ K := by
 cases lo with
 | nil => exact absurd rfl hne
 | cons o r => exact ⟨fun ho => OpT.to he.ofA q (p.out ho)⟩
variable {K : St → Prop} {i : Nat} {r : List Oper} {ty : TypeId} {pos : String} {af : Array Edge}
theorem zaf {s : St} (hk : K s) : SeqL P rd nt ops [] i s K := ⟨hk⟩
theorem zad [PC P] {d : Nat} {op : Op} {v : Value} {h' : AHeap} (hop : Does P l op h v h') (hd : Nat.blt d nt = true) (hk : SeqL P rd nt ops r (i + 1) ⟨ofA ((d, v) :: l), ds, h'⟩ K) :
  SeqL P rd nt ops (⟨some d, op, ty, pos, af, none⟩ :: r) i ⟨ofA l, ds, h⟩ K := by
 refine ⟨fun ho => ?_⟩;refine zbE PC.ok ho (s := ⟨ofA l, ds, h⟩) rfl hop.out fun u H' hm => ?_
 rw [List.mem_singleton] at hm;cases hm;refine ⟨ofA ((d, v) :: l), ?_, hk.out⟩;simp only [putDst];rw [Nat.blt_eq] at hd;rw [if_pos hd]; rfl
theorem znZ [PC P] {d : Nat} {op : Op} {v : Nat → Value} {H : AHeap} {lo : Nat} {L : List (Option ABlk)} {x : ABlk} (hop : Does P l op (ext H lo L) (v (ext H lo L).fresh) ((ext H lo L).add x)) (hd : Nat.blt d nt = true)
  (hk : SeqL P rd nt ops r (i + 1) ⟨ofA ((d, v (nb H L.length)) :: l), ds, ext H lo (L ++ [some x])⟩ K) :
  SeqL P rd nt ops (⟨some d, op, ty, pos, af, none⟩ :: r) i ⟨ofA l, ds, ext H lo L⟩ K := by
 rw [← za2] at hk;exact zad hop hd hk
theorem zkZ [PC P] {d : Nat} {op : Op} {H : AHeap} {lo : Nat} {L : List (Option ABlk)} {x : ABlk} (hop : Does P l op (ext H lo L) (.pointer (some ⟨(ext H lo L).fresh, 0, none⟩)) ((ext H lo L).add x)) (hd : Nat.blt d nt = true)
  (hk : SeqL P rd nt ops r (i + 1) ⟨ofA ((d, .pointer (some ⟨nb H L.length, 0, none⟩)) :: l), ds, ext H lo (L ++ [some x])⟩ K) :
  SeqL P rd nt ops (⟨some d, op, ty, pos, af, none⟩ :: r) i ⟨ofA l, ds, ext H lo L⟩ K := znZ (v := fun b => .pointer (some ⟨b, 0, none⟩)) hop hd hk
theorem zbO [PC P] {d : Nat} {op : Op} {H : AHeap} {lo n c : Nat} {L : List (Option ABlk)} {x : ABlk} (hop : Does P l op (ext H lo L) (.slice (some ⟨(ext H lo L).fresh, 0, none⟩) n c) ((ext H lo L).add x)) (hd : Nat.blt d nt = true)
  (hk : SeqL P rd nt ops r (i + 1) ⟨ofA ((d, .slice (some ⟨nb H L.length, 0, none⟩) n c) :: l), ds, ext H lo (L ++ [some x])⟩ K) :
  SeqL P rd nt ops (⟨some d, op, ty, pos, af, none⟩ :: r) i ⟨ofA l, ds, ext H lo L⟩ K := znZ (v := fun b => .slice (some ⟨b, 0, none⟩) n c) hop hd hk
theorem zhA [PC P] {op : Op} {v : Value} {h' : AHeap} (hop : Does P l op h v h') (hk : SeqL P rd nt ops r (i + 1) ⟨ofA l, ds, h'⟩ K) :
  SeqL P rd nt ops (⟨none, op, ty, pos, af, none⟩ :: r) i ⟨ofA l, ds, h⟩ K := by
 refine ⟨fun ho => ?_⟩;refine zbE PC.ok ho (s := ⟨ofA l, ds, h⟩) rfl hop.out fun u H' hm => ?_
 rw [List.mem_singleton] at hm;cases hm;exact ⟨ofA l, rfl, hk.out⟩
def gdst (ops : Array Oper) (j : Nat) : Option Nat := match ops.toList[j]? with
 | some p => p.dst
 | none => none
theorem zet {o : Oper} {j t : Nat} {w b : Bool} (hg : o.guard = some (j, w)) (hd : gdst ops j = some t) (hl : lk l t = some (.bool b)) : wantedA o ops (ofA l) = some (b == w) := by
 unfold gdst at hd;split at hd
 ·rename_i p hp;have hp' : ops[j]? = some p := by simpa using hp
  simp only [wantedA, hg, hp', hd, zaG, hl]
 ·cases hd
theorem zay [PC P] {d : Nat} {op : Op} {v : Value} {h' : AHeap} {j t : Nat} {w : Bool} (hd : gdst ops j = some t) (hl : lk l t = some (.bool w)) (hop : Does P l op h v h') (hdn : Nat.blt d nt = true)
  (hk : SeqL P rd nt ops r (i + 1) ⟨ofA ((d, v) :: l), ds, h'⟩ K) : SeqL P rd nt ops (⟨some d, op, ty, pos, af, some (j, w)⟩ :: r) i ⟨ofA l, ds, h⟩ K := by
 refine ⟨fun ho => ?_⟩;refine zbE PC.ok ho (s := ⟨ofA l, ds, h⟩) (by rw [zet rfl hd hl]; simp) hop.out fun u H' hm => ?_
 rw [List.mem_singleton] at hm;cases hm;refine ⟨ofA ((d, v) :: l), ?_, hk.out⟩;simp only [putDst];rw [Nat.blt_eq] at hdn;rw [if_pos hdn]; rfl
theorem zmB {d : Nat} {op : Op} {j t : Nat} {w b : Bool} (hd : gdst ops j = some t) (hl : lk l t = some (.bool b)) (hb : b = !w) (hdn : Nat.blt d nt = true)
  (hk : SeqL P rd nt ops r (i + 1) ⟨ofA ((d, undefV) :: l), ds, h⟩ K) : SeqL P rd nt ops (⟨some d, op, ty, pos, af, some (j, w)⟩ :: r) i ⟨ofA l, ds, h⟩ K := by
 refine ⟨fun ho => ?_⟩;have hn : (d < nt) := by rw [Nat.blt_eq] at hdn; exact hdn
 refine zeO ho (s := ⟨ofA l, ds, h⟩) (by rw [zet rfl hd hl, hb]; cases w <;> rfl) (e := ofA ((d, undefV) :: l)) ?_ hk.out;simp only [putDst];rw [if_pos hn]; rfl
theorem znY {t : Nat} {b : Bool} (hl : lk l t = some (.bool b)) (hne : r ≠ []) (h1 : b = true → SeqL P rd nt ops r i ⟨ofA ((t, .bool true) :: l), ds, h⟩ K) (h2 : b = false → SeqL P rd nt ops r i ⟨ofA ((t, .bool false) :: l), ds, h⟩ K) :
  SeqL P rd nt ops r i ⟨ofA l, ds, h⟩ K := by
 have key : ∀ c, b = c → SeqL P rd nt ops r i ⟨ofA ((t, .bool c) :: l), ds, h⟩ K → SeqL P rd nt ops r i ⟨ofA l, ds, h⟩ K := by
  intro c hc hs;refine zcy (l' := (t, .bool c) :: l) ?_ (.refl _) hne hs;exact za0 (by rw [hl, hc]) zde
 cases b with
 | true => exact key true rfl (h1 rfl)
 | false => exact key false rfl (h2 rfl)
def tgtE (l : EL) (c : Call) : Option (FuncId × List Value) := match c.callee with
 | .value f => match ev l f, evs l c.args.toList with
  | some (.func (.func g) a b), some xs => some (g, a.toList ++ xs ++ b.toList)
  | _, _ => none
 | _ => none
theorem zgq {c : Call} {f : FuncId} {args : List Value} (h : tgtE l c = some (f, args)) : target (ofA l) c = some (.fn f args) := by
 unfold tgtE at h;unfold target;split at h
 ·rename_i fo hf;simp only [hf, zaE, zeU];split at h
  ·rename_i g a b xs h1 h2;cases h;simp only [h1, h2]
  ·cases h
 ·cases h
abbrev Ret (P : Program) (f : FuncId) (args : List Value) (h : AHeap) (v : Value) (h' : AHeap) : Prop := CallT P f args h fun u k => u = v ∧ k = h'
theorem zcx {d : Nat} {c : Call} {f : FuncId} {args : List Value} {R : Value → AHeap → Prop} (ht : tgtE l c = some (f, args)) (hc : CallT P f args h R) (hd : Nat.blt d nt = true)
  (hk : ∀ v h', R v h' → SeqL P rd nt ops r (i + 1) ⟨ofA ((d, v) :: l), ds, h'⟩ K) : SeqL P rd nt ops (⟨some d, .call c, ty, pos, af, none⟩ :: r) i ⟨ofA l, ds, h⟩ K := by
 refine ⟨fun ho => ?_⟩;refine zeP ho (s := ⟨ofA l, ds, h⟩) rfl rfl (zgq ht) hc fun v H' hR => ⟨ofA ((d, v) :: l), ?_, (hk v H' hR).out⟩
 simp only [putDst];rw [Nat.blt_eq] at hd;rw [if_pos hd]; rfl
theorem zac {d : Nat} {c : Call} {f : FuncId} {args : List Value} {v : Value} {h' : AHeap} (ht : tgtE l c = some (f, args)) (hc : Ret P f args h v h') (hd : Nat.blt d nt = true)
  (hk : SeqL P rd nt ops r (i + 1) ⟨ofA ((d, v) :: l), ds, h'⟩ K) : SeqL P rd nt ops (⟨some d, .call c, ty, pos, af, none⟩ :: r) i ⟨ofA l, ds, h⟩ K :=
 zcx ht hc hd fun _ _ ⟨e1, e2⟩ => by subst e1; subst e2; exact hk
theorem zmC {d : Nat} {c : Call} {f : FuncId} {args : List Value} {R : Value → AHeap → Prop} {j t : Nat} {w : Bool} (hg : gdst ops j = some t) (hl : lk l t = some (.bool w)) (ht : tgtE l c = some (f, args)) (hc : CallT P f args h R) (hd : Nat.blt d nt = true)
  (hk : ∀ v h', R v h' → SeqL P rd nt ops r (i + 1) ⟨ofA ((d, v) :: l), ds, h'⟩ K) : SeqL P rd nt ops (⟨some d, .call c, ty, pos, af, some (j, w)⟩ :: r) i ⟨ofA l, ds, h⟩ K := by
 refine ⟨fun ho => ?_⟩;refine zeP ho (s := ⟨ofA l, ds, h⟩) (by rw [zet rfl hg hl]; simp) rfl (zgq ht) hc fun v H' hR => ⟨ofA ((d, v) :: l), ?_, (hk v H' hR).out⟩
 simp only [putDst];rw [Nat.blt_eq] at hd;rw [if_pos hd]; rfl
theorem zaW {d : Nat} {c : Call} {f : FuncId} {args : List Value} {v : Value} {h' : AHeap} {j t : Nat} {w : Bool} (hg : gdst ops j = some t) (hl : lk l t = some (.bool w)) (ht : tgtE l c = some (f, args)) (hc : Ret P f args h v h') (hd : Nat.blt d nt = true)
  (hk : SeqL P rd nt ops r (i + 1) ⟨ofA ((d, v) :: l), ds, h'⟩ K) : SeqL P rd nt ops (⟨some d, .call c, ty, pos, af, some (j, w)⟩ :: r) i ⟨ofA l, ds, h⟩ K :=
 zmC hg hl ht hc hd fun _ _ ⟨e1, e2⟩ => by subst e1; subst e2; exact hk
end
section
variable {P : Program} {H : AHeap} {f : FuncId} {fn : Func} {c : Code} {args : List Value}
def resE (l : EL) : List ResultVar → Option (List Value)
 | [] => some []
 | .tmp t :: r => match lk l t with
  | some v => match resE l r with
   | some vs => some (v :: vs)
   | none => none
  | none => none
 | .cell _ _ :: _ => none
theorem zdD {C : Ctx} {l : EL} {h : AHeap} : ∀ {rs : List ResultVar} {vs : List Value}, resE l rs = some vs → resultsA C (ofA l) h rs = some vs := by
 intro rs
 induction rs with
 | nil => intro vs h; exact h
 | cons a r ih =>
  intro vs h
  cases a with
  | tmp t =>
   simp only [resE] at h;split at h
   ·rename_i v hv;split at h
    ·rename_i us hu;cases h;simp only [resultsA, evalA, zaG, hv, ih hu]
    ·cases h
   ·cases h
  | cell a t => cases h
structure Fin (P : Program) (rs : Array ResultVar) (H : AHeap) (Q : Value → AHeap → Prop) (s : St) : Prop where
 out : ∃ h' l v H2, takeDefs s.defs s.heap = some h' ∧ resultsA (ctxOf P) s.env h' rs.toList = some l ∧ Tidy H (packA l) h' v H2 ∧ Q v H2
theorem zae [PC P] (hf : P.funcs[f]? = some fn) (hn : (fn.name == "runtime.NumGoroutine") = false) {Q : Value → AHeap → Prop} (hb : fn.body = some c) (hl : Nat.ble args.length fn.ntmps = true)
  (h : Closed H → CT P none fn.ntmps c ⟨ofA (argE 0 args), [], ext H H.fresh []⟩ (Fin P fn.results H Q) (fun _ _ => False) (Fin P fn.results H Q)) : CallT P f args H Q := by
 have main : Closed H → CallT P f args H Q := by
  intro hc;refine zh4 ?_;refine zlO (R := fun x s => match x with | .normal => Fin P fn.results H Q s | .exit i => False | .ret => Fin P fn.results H Q s) PC.ok (ctx_fn hf) hb (Nat.le_of_ble_eq_true hl) ?_ ?_
  ·refine CodeT.to (e' := ofA (argE 0 args)) (h' := ext H H.fresh []) ?_ ⟨fun b => ?_, rfl, ?_⟩ (h hc).out
   ·intro t v hv;rw [zaG, zlU] at hv;rw [Tr.zcs];simpa using hv
   ·rfl
   ·show H.fresh = min H.fresh H.fresh;omega
  ·intro x s hx;refine ⟨fun id e => by subst e; exact hx, ?_⟩
   have : Fin P fn.results H Q s := by
    cases x with
    | normal => exact hx
    | exit i => exact hx.elim
    | ret => exact hx
   obtain ⟨h', l, v, H2, h1, h2, h3, h4⟩ := this.out;exact ⟨h', l, h1, h2, v, H2, h3, h4⟩
 by_cases hc : Closed H
 ·exact main hc
 ·have hok : P.funcs[f]? = some fn := hf;refine ⟨fun args w => ?_, fun Γ w args' hr _ _ => absurd hr.closed hc⟩;simp [callFunc, Sem.run_bind, hok, (by simpa using hn : ¬ fn.name = "runtime.NumGoroutine"), hb]
theorem zab {Q : Value → AHeap → Prop} {rs : Array ResultVar} {l : EL} {L : List (Option ABlk)} {lo : Nat} {vs : List Value} (hc : Closed H) (hr : resE l rs.toList = some vs) (hv : flatD 8 (packA vs) = true) (hq : Q (packA vs) H) :
  Fin P rs H Q ⟨ofA l, [], ext H lo L⟩ :=
 ⟨⟨_, vs, packA vs, H, rfl, zdD hr, zcU hc (fun _ _ h => zaj hc h) hv, hq⟩⟩
theorem zci {Q : Value → AHeap → Prop} {rs : Array ResultVar} {l : EL} {L : List (Option ABlk)} {lo : Nat} {vs : List Value} {v : Value} {k : Nat} {cs : List Value} {z : Nat} {s ro : Bool} (hc : Closed H) (hr : resE l rs.toList = some vs)
  (hk : L[k]? = some (some (.cells cs z s ro))) (hf : cs.all (flatD 8) = true) (hv : renV (renOf H [nb H k]) 8 (packA vs) = some v) (hq : Q v (H.add (.cells cs z s ro))) :
  Fin P rs H Q ⟨ofA l, [], ext H lo L⟩ :=
 ⟨⟨_, vs, v, _, rfl, zdD hr, zf2 hc (fun _ _ h => zaj hc h) ⟨zao.1 (zat k), zbf k⟩ (zaa hk) hf hv, hq⟩⟩
end
end Go.Den
end
noncomputable section
namespace Go.Den
section
variable {P : Program} {rd : Option Nat} {nt : Nat} {l : EL} {ds : List Nat} {h : AHeap} {Qe : Nat → St → Prop} {Qr : St → Prop}
theorem zaA {b : Code} {α : Type} (E : α → EL) (hh : α → AHeap) (J : α → Prop) (μ : α → Nat)
  (step : ∀ a, J a → (∀ a', μ a' < μ a → J a' → LT P rd nt b ⟨ofA (E a'), ds, hh a'⟩ Qe Qr) → CT P rd nt b ⟨ofA (E a), ds, hh a⟩ (fun s' => LT P rd nt b s' Qe Qr) Qe Qr)
  (a0 : α) (h0 : J a0) (hs : Sub (E a0) l) (q : HQ h (hh a0)) : LT P rd nt b ⟨ofA l, ds, h⟩ Qe Qr := by
 have key : ∀ (n : Nat) (a : α), μ a < n → J a → LT P rd nt b ⟨ofA (E a), ds, hh a⟩ Qe Qr := by
  intro n
  induction n with
  | zero => intro a ha; omega
  | succ n ih =>
   intro a ha hj;exact zdK (step a hj fun a' hm hj' => ih a' (by omega) hj')
 exact zaN hs q (key (μ a0 + 1) a0 (by omega) h0)
theorem zcG {b : Code} (E : Nat → EL) (J : Nat → Prop) (n : Nat)
  (step : ∀ i, i ≤ n → J i → (∀ i', i < i' → i' ≤ n → J i' → LT P rd nt b ⟨ofA (E i'), ds, h⟩ Qe Qr) → CT P rd nt b ⟨ofA (E i), ds, h⟩ (fun s' => LT P rd nt b s' Qe Qr) Qe Qr)
  (i0 : Nat) (hi : i0 ≤ n) (h0 : J i0) (hs : Sub (E i0) l) : LT P rd nt b ⟨ofA l, ds, h⟩ Qe Qr :=
 zaA E (fun _ => h) (fun i => i ≤ n ∧ J i) (fun i => n - i) (fun a ha ih => step a ha.1 ha.2 fun i' h1 h2 h3 => ih i' (by omega) ⟨h2, h3⟩) i0 ⟨hi, h0⟩ hs (.refl _)
theorem zb7 {k : IntKind} {i n : Nat} (h : i < n) : idx (.int k (i : Int)) n = some i := by
 simp only [idx];rw [if_pos ⟨by omega, by omega⟩]; rfl
theorem idx_int {k : IntKind} {i : Int} {n : Nat} (h : 0 ≤ i ∧ i < n) : idx (.int k i) n = some i.toNat := by
 simp only [idx];rw [if_pos h]
theorem wrap_i64 {n : Int} (h : -9223372036854775808 ≤ n ∧ n ≤ 9223372036854775807) : IntKind.i64.wrap n = n := by
 have e : IntKind.i64.wrap n = if n % 18446744073709551616 ≥ 9223372036854775808 then n % 18446744073709551616 - 18446744073709551616 else n % 18446744073709551616 := by
  show (if (true && decide (n % 18446744073709551616 ≥ 9223372036854775808)) = true then n % 18446744073709551616 - 18446744073709551616 else n % 18446744073709551616) = _;simp
 rw [e];split <;> omega
theorem wrap_u64 {n : Int} (h : 0 ≤ n ∧ n ≤ 18446744073709551615) : IntKind.u64.wrap n = n := by
 have e : IntKind.u64.wrap n = n % 18446744073709551616 := rfl;rw [e]; omega
theorem zlI {x y : Operand} {t t' : TypeId} {a b : Int} (hx : ev l x = some (.int .i64 a)) (hy : ev l y = some (.int .i64 b)) (hr : -9223372036854775808 ≤ a + b ∧ a + b ≤ 9223372036854775807) : Does P l (.binOp .add t x y t') h (.int .i64 (a + b)) h :=
 za5 hx hy (by simp only [intBin, wrapI, wrap_i64 hr]) trivial
theorem zjI {x y : Operand} {t t' : TypeId} {a b : Int} (hx : ev l x = some (.int .i64 a)) (hy : ev l y = some (.int .i64 b)) (hr : -9223372036854775808 ≤ a - b ∧ a - b ≤ 9223372036854775807) : Does P l (.binOp .sub t x y t') h (.int .i64 (a - b)) h :=
 za5 hx hy (by simp only [intBin, wrapI, wrap_i64 hr]) trivial
theorem zpo {x y : Operand} {t t' : TypeId} {a b : Int} (hx : ev l x = some (.int .i64 a)) (hy : ev l y = some (.int .i64 b)) (hr : -9223372036854775808 ≤ a * b ∧ a * b ≤ 9223372036854775807) : Does P l (.binOp .mul t x y t') h (.int .i64 (a * b)) h :=
 za5 hx hy (by simp only [intBin, wrapI, wrap_i64 hr]) trivial
theorem zpl {x : Operand} {t t' : TypeId} {i : Nat} (hx : ev l x = some (.int .i64 (i : Int))) (hr : i < 9223372036854775807) : Does P l (.binOp .add t x (.const (.int .i64 1)) t') h (.int .i64 ((i + 1 : Nat) : Int)) h := by
 have := zlI (P := P) (l := l) (h := h) (t := t) (t' := t') (y := .const (.int .i64 1)) hx rfl (by omega);exact this
theorem zlF {x y : Operand} {t t' : TypeId} {a b : Int} (hx : ev l x = some (.int .i64 a)) (hy : ev l y = some (.int .i64 b)) (hr : b ≠ 0) : Does P l (.binOp .rem t x y t') h (.int .i64 (a.tmod b)) h :=
 za5 hx hy (by simp only [intBin]; rw [if_neg hr]) trivial
end
theorem zdH {α : Type} {l : List α} {f : α → Value} {i n : Nat} (h : i < l.length) : pt false n (l.map f) (0 + i * 1) = some (f l[i]) := by
 simp [pt, h]
theorem zdS {α : Type} {f : α → List Value} {w : Nat} (hf : ∀ x, (f x).length = w) : ∀ (l : List α) (i : Nat), (l.flatMap f).drop (i * w) = (l.drop i).flatMap f
 | [], i => by simp
 | a :: r, 0 => by simp
 | a :: r, i + 1 => by
  have : (i + 1) * w = (f a).length + i * w := by rw [hf]; rw [Nat.add_mul]; omega
  rw [List.flatMap_cons, this, ← List.drop_drop, List.drop_left, zdS hf r i, List.drop_succ_cons]
theorem zop {α : Type} {l : List α} {f : α → List Value} {w i : Nat} (hf : ∀ x, (f x).length = w) (h : i < l.length) : pt true w (l.flatMap f) (0 + i * w) = some (.agg ⟨f l[i]⟩) := by
 have h1 : (l.flatMap f).drop (0 + i * w) = f l[i] ++ (l.drop (i + 1)).flatMap f := by
  rw [Nat.zero_add, zdS hf, List.drop_eq_getElem_cons h, List.flatMap_cons]
 have h2 : (f l[i] ++ (l.drop (i + 1)).flatMap f).take w = f l[i] := List.take_left' (hf _);simp only [pt, sliceIn, h1, h2, hf, BEq.rfl, if_true]
theorem zil {α : Type} {l : List α} {f : α → List Value} {w i j n : Nat} {v : Value} (hf : ∀ x, (f x).length = w) (h : i < l.length) (hv : (f l[i])[j]? = some v) : pt false n (l.flatMap f) (0 + i * w + j) = some v := by
 have hj : j < (f l[i]).length := (List.getElem?_eq_some_iff.1 hv).1
 have h1 : (l.flatMap f).drop (i * w) = f l[i] ++ (l.drop (i + 1)).flatMap f := by
  rw [zdS hf, List.drop_eq_getElem_cons h, List.flatMap_cons]
 simp only [pt, Nat.zero_add];rw [← List.getElem?_drop, h1, List.getElem?_append_left hj];exact hv
theorem zbR {α : Type} {f : α → List Value} {w : Nat} (hf : ∀ x, (f x).length = w) (l : List α) : (l.flatMap f).length = l.length * w := by
 induction l with
 | nil => simp
 | cons a r ih => rw [List.flatMap_cons, List.length_append, hf, ih, List.length_cons, Nat.add_mul]; omega
end Go.Den
end
noncomputable section
namespace Go.Den
def isFree : Op → Bool
 | .move _ | .assign _ | .pick _ _ _ | .binOp _ _ _ _ _ | .unOp _ _ _ | .extract _ _ | .field _ _ _ | .build _ _ | .fieldAddr _ _ _ | .indexAddr _ _ _ | .index _ _ _ | .makeFunc _ _ _ | .nilCheck _ => true
 | _ => false
def planN : List Oper → Nat → Tr Nat → Option (List DOp)
 | [], _, _ => some []
 | o :: r, i, acc =>
  if o.after.toList.all (fun e => !Region.binds .any e || Nat.blt e.on i) then
   match planN r (i + 1) (acc.set i (befOf acc o)) with
   | some l => some (⟨o, i, befOf acc o, isFree o.op⟩ :: l)
   | none => none
  else none
theorem zlb (C : Ctx) : ∀ {l : List Oper} {i : Nat} {acc : Tr Nat} {ds : List DOp}, planN l i acc = some ds → ∃ ds', planGo C l i acc = some ds' ∧ ds = ds'.map fun d => { d with free := isFree d.o.op }
 | [], i, acc, ds, h => by simp only [planN] at h; cases h; exact ⟨[], rfl, rfl⟩
 | o :: r, i, acc, ds, h => by
  simp only [planN] at h;split at h
  ·rename_i hall;split at h
   ·rename_i l hl;cases h;obtain ⟨ds', h1, h2⟩ := zlb C hl;refine ⟨⟨o, i, befOf acc o, heapFree C o.op⟩ :: ds', ?_, ?_⟩
    ·simp only [planGo]; rw [if_pos hall, h1]
    ·rw [h2]; rfl
   ·cases h
  ·cases h
def reads (ops : Array Oper) (o : Oper) : List Nat := o.op.operands.toList.filterMap (fun | .tmp t => some t | _ => none) ++ (match o.guard with | some (j, _) => (match gdst ops j with | some t => [t] | none => []) | none => [])
def statOk (ops : Array Oper) : Bool := match planN ops.toList 0 .nil with
 | none => false
 | some all => all.all fun d => all.all fun u => !d.apart u || (match u.o.dst with | some x => !(d.o.dst == some x) && !((reads ops d.o).contains x) | none => true)
def befS (ops : Array Oper) (i : Nat) : Nat := match planN ops.toList 0 .nil with
 | none => 0
 | some all => match all[i]? with
  | some d => d.bef
  | none => 0
def seriesS (ops : Array Oper) (i : Nat) : Bool := match planN ops.toList 0 .nil with
 | none => false
 | some all => match all[i]? with
  | some d => all.all fun u => !d.apart u || u.free
  | none => false
def fl (ad : List Nat) (l : EL) : EL := l.filter fun x => !ad.contains x.1
theorem zhq {ad : List Nat} : ∀ {l : EL} {t : Nat}, lk (fl ad l) t = if ad.contains t then none else lk l t
 | [], t => by simp [fl, lk]
 | (u, v) :: r, t => by
  have ih : lk (fl ad r) t = if ad.contains t then none else lk r t := zhq
  by_cases hu : ad.contains u = true
  ·have e : fl ad ((u, v) :: r) = fl ad r := by simp only [fl]; rw [List.filter_cons, if_neg (by rw [hu]; simp)]
   rw [e, ih];by_cases ht : ad.contains t = true
   ·rw [if_pos ht, if_pos ht]
   ·rw [if_neg ht, if_neg ht];simp only [lk]
    cases hb : Nat.beq u t with
    | true => rw [Nat.eq_of_beq_eq_true hb] at hu; exact absurd hu ht
    | false => rfl
  ·have e : fl ad ((u, v) :: r) = (u, v) :: fl ad r := by simp only [fl]; rw [List.filter_cons, if_pos (by rw [Bool.not_eq_true] at hu; rw [hu]; rfl)]
   rw [e];simp only [lk, ih]
   cases hb : Nat.beq u t with
   | true => rw [Nat.eq_of_beq_eq_true hb] at hu; simp only [if_neg hu]
   | false => rfl
theorem zcF {e e' : Env} : ∀ {xs : List Operand}, (∀ x ∈ xs, evalA e x = evalA e' x) → evalL e xs = evalL e' xs
 | [], _ => rfl
 | x :: r, h => by
  have h2 : evalL e r = evalL e' r := zcF fun y hy => h y (List.mem_cons_of_mem _ hy)
  simp only [evalL, h x (List.mem_cons_self ..), h2]
theorem zdP {e e' : Env} : ∀ {xs : List (Nat × Operand)}, (∀ x ∈ xs, evalA e x.2 = evalA e' x.2) → evalPs e xs = evalPs e' xs
 | [], _ => rfl
 | (i, x) :: r, h => by
  have h1 := h (i, x) (by simp);simp only at h1;have h2 : evalPs e r = evalPs e' r := zdP fun y hy => h y (List.mem_cons_of_mem _ hy)
  simp only [evalPs, h1, h2]
theorem zdp {e e' : Env} {x : Option Operand} (h : ∀ y, x = some y → evalA e y = evalA e' y) : opA.evalOpt e x = opA.evalOpt e' x := by
 cases x with
 | none => rfl
 | some y => simp only [opA.evalOpt, h y rfl]
theorem zoA {P : Program} {C : Ctx} {e e' : Env} {o : Op} {h : AHeap} (he : ∀ x ∈ o.operands.toList, evalA e x = evalA e' x) : opA P C e o h = opA P C e' o h := by
 cases o with
 | build t ps =>
  have : evalPs e ps.toList = evalPs e' ps.toList := zdP fun x hx => he x.2 (by simp only [Op.operands]; simp only [List.mem_map]; exact ⟨x, hx, rfl⟩)
  simp only [opA, this]
 | buildSlice t n ps =>
  have : evalPs e ps.toList = evalPs e' ps.toList := zdP fun x hx => he x.2 (by simp only [Op.operands]; simp only [List.mem_map]; exact ⟨x, hx, rfl⟩)
  simp only [opA, this]
 | makeFunc f a b =>
  have h1 : evalL e a.toList = evalL e' a.toList := zcF fun x hx => he x (by simp only [Op.operands]; simp; left; simpa using hx)
  have h2 : evalL e b.toList = evalL e' b.toList := zcF fun x hx => he x (by simp only [Op.operands]; simp; right; simpa using hx)
  simp only [opA, h1, h2]
 | makeMap t r =>
  cases r with
  | none => rfl
  | some n =>
   have := he n (by simp [Op.operands])
   simp only [opA, this]
 | slice t x lo hi mx =>
  have h0 := he x (by simp [Op.operands]);have h1 : opA.evalOpt e lo = opA.evalOpt e' lo := zdp fun y hy => he y (by simp [Op.operands, hy])
  have h2 : opA.evalOpt e hi = opA.evalOpt e' hi := zdp fun y hy => he y (by simp [Op.operands, hy])
  have h3 : opA.evalOpt e mx = opA.evalOpt e' mx := zdp fun y hy => he y (by simp [Op.operands, hy])
  simp only [opA, h0, h1, h2, h3]
 | call c =>
  simp only [opA]
  cases hc : c.callee with
  | builtin b =>
   have : evalL e c.args.toList = evalL e' c.args.toList := zcF fun x hx => he x (by simp only [Op.operands, Call.operands, hc]; simpa using hx)
   simp only [this]
  | _ => rfl
 | alloc t => rfl
 | pick c a b =>
  have h0 := he c (by simp [Op.operands]);have h1 := he a (by simp [Op.operands]);have h2 := he b (by simp [Op.operands])
  simp only [opA, h0, h1, h2]
 | store t a b =>
  have h1 := he a (by simp [Op.operands]);have h2 := he b (by simp [Op.operands])
  simp only [opA, h1, h2]
 | binOp o t a b t' =>
  have h1 := he a (by simp [Op.operands]);have h2 := he b (by simp [Op.operands])
  simp only [opA, h1, h2]
 | makeSlice t a b =>
  have h1 := he a (by simp [Op.operands]);have h2 := he b (by simp [Op.operands])
  simp only [opA, h1, h2]
 | indexAddr t a b =>
  have h1 := he a (by simp [Op.operands]);have h2 := he b (by simp [Op.operands])
  simp only [opA, h1, h2]
 | index t a b =>
  have h1 := he a (by simp [Op.operands]);have h2 := he b (by simp [Op.operands])
  simp only [opA, h1, h2]
 | lookup t a b k =>
  have h1 := he a (by simp [Op.operands]);have h2 := he b (by simp [Op.operands])
  simp only [opA, h1, h2]
 | mapEntry t a b =>
  have h1 := he a (by simp [Op.operands]);have h2 := he b (by simp [Op.operands])
  simp only [opA, h1, h2]
 | mapUpdate t a b c =>
  have h0 := he a (by simp [Op.operands]);have h1 := he b (by simp [Op.operands]);have h2 := he c (by simp [Op.operands])
  simp only [opA, h0, h1, h2]
 | insert t a b c =>
  have h0 := he a (by simp [Op.operands]);have h1 := he b (by simp [Op.operands]);have h2 := he c (by simp [Op.operands])
  simp only [opA, h0, h1, h2]
 | entryStore t a b c =>
  have h0 := he a (by simp [Op.operands]);have h1 := he b (by simp [Op.operands]);have h2 := he c (by simp [Op.operands])
  simp only [opA, h0, h1, h2]
 | move a => have h1 := he a (by simp [Op.operands]); simp only [opA, h1]
 | assign a => have h1 := he a (by simp [Op.operands]); simp only [opA, h1]
 | box t a => have h1 := he a (by simp [Op.operands]); simp only [opA, h1]
 | load t a => have h1 := he a (by simp [Op.operands]); simp only [opA, h1]
 | nilCheck a => have h1 := he a (by simp [Op.operands]); simp only [opA, h1]
 | unOp o t a => have h1 := he a (by simp [Op.operands]); simp only [opA, h1]
 | convert s d a => have h1 := he a (by simp [Op.operands]); simp only [opA, h1]
 | fieldAddr s a f => have h1 := he a (by simp [Op.operands]); simp only [opA, h1]
 | field s a f => have h1 := he a (by simp [Op.operands]); simp only [opA, h1]
 | range t a => have h1 := he a (by simp [Op.operands]); simp only [opA, h1]
 | next a s => have h1 := he a (by simp [Op.operands]); simp only [opA, h1]
 | entry a => have h1 := he a (by simp [Op.operands]); simp only [opA, h1]
 | extract a i => have h1 := he a (by simp [Op.operands]); simp only [opA, h1]
 | _ => rfl
section
variable {P : Program} {rd : Option Nat} {nt : Nat} {ops : Array Oper}
inductive DRun (P : Program) (rd : Option Nat) (nt : Nat) (ops : Array Oper) (all : List DOp) (defs : List Nat) : List DOp → DS → DS → List DT → Prop
 | nil {ds : DS} : DRun P rd nt ops all defs [] ds ds []
 | cons {d : DOp} {r : List DOp} {ds ds' dsf : DS} {t : DT} {ts : List DT} : StepOk all defs ds d ds' t → OpT P rd nt ops d.i t.pre (fun s => s = t.post) → DRun P rd nt ops all defs r ds' dsf ts → DRun P rd nt ops all defs (d :: r) ds dsf (t :: ts)
theorem zpw {all : List DOp} {defs : List Nat} {l : List DOp} {ds dsf : DS} {ts : List DT} (h : DRun P rd nt ops all defs l ds dsf ts) :
  ∃ f : Nat → DS, f 0 = ds ∧ f l.length = dsf ∧ ∀ i, i < l.length → StepOk all defs (f i) l[i]! (f (i + 1)) ts[i]! ∧ OpT P rd nt ops (l[i]!).i (ts[i]!).pre (fun s => s = (ts[i]!).post) := by
 induction h with
 | nil => rename_i ds; exact ⟨fun _ => ds, rfl, rfl, fun i hi => by simp at hi⟩
 | cons h1 h2 _ ih =>
  rename_i d r ds ds' dsf t ts _;obtain ⟨f, f0, f1, f2⟩ := ih;refine ⟨fun i => match i with | 0 => ds | i + 1 => f i, rfl, f1, fun i hi => ?_⟩
  cases i with
  | zero => simp only [List.getElem!_cons_zero, f0]; exact ⟨h1, h2⟩
  | succ i => simp only [List.getElem!_cons_succ]; exact f2 i (by simpa using hi)
structure PlanOk (ops : Array Oper) (all : List DOp) : Prop where
 len : all.length = ops.size
 num : ∀ i d, all[i]? = some d → d.i = i ∧ ops[i]? = some d.o ∧ (∀ e ∈ d.o.after, Region.binds .any e = true → e.on < i) ∧ ∀ j, Nat.testBit d.bef j = true → Bef ops j i
 free : ∀ d ∈ all, d.free = isFree d.o.op
theorem zgc {all : List DOp} (h : planN ops.toList 0 .nil = some all) : PlanOk ops all := by
 obtain ⟨ds', h1, h2⟩ := zlb { ty := .nil, fn := .nil } h;obtain ⟨p1, p2⟩ := zgM (ops := ops) h1 (fun i => by simp) (fun m b hm => by simp [Tr.zbS] at hm);subst h2;refine ⟨by simpa using p1, fun i d hd => ?_, fun d hd => ?_⟩
 ·rw [List.getElem?_map] at hd
  cases hd' : ds'[i]? with
  | none => rw [hd'] at hd; cases hd
  | some d' =>
   rw [hd'] at hd;simp only [Option.map_some, Option.some.injEq] at hd;have := p2 i d' hd';simp only [Nat.zero_add] at this;subst hd;exact this
 ·rw [List.mem_map] at hd;obtain ⟨d', _, rfl⟩ := hd;rfl
theorem zh2 (hm : P.follows .mixedOrders = true) {all : List DOp} (hp : PlanOk ops all) {s : St} {dsf : DS} {ts : List DT} (h : DRun P rd nt ops all s.defs all ⟨s.env, s.heap, s.heap, []⟩ dsf ts) {id : Nat} {Q : Ex → St → Prop} (hQ : Q .normal ⟨dsf.env, s.defs, dsf.heap⟩) :
  CodeT P rd nt (.region id ops true) s Q := by
 obtain ⟨f, f0, f1, f2⟩ := zpw h;rw [hp.len] at f1
 have hD : ∀ i, i < ops.size → all[i]? = some all[i]! := by
  intro i hi;have := hp.len;rw [List.getElem!_eq_getElem?_getD, List.getElem?_eq_getElem (by omega)]; rfl
 have hst := fun i (hi : i < ops.size) => f2 i (by rw [hp.len]; exact hi)
 have r : Run ops all s f (fun i => all[i]!) (fun i => ts[i]!) := by
  refine ⟨fun i hi => List.mem_of_getElem? (hD i hi), fun i hi => (hp.num i _ (hD i hi)).1, fun i hi => (hp.num i _ (hD i hi)).2.1, ?_, fun i hi j hj => (hp.num i _ (hD i hi)).2.2.2 j hj, f0, fun i hi => (hst i hi).1⟩;intro i o ho e he hb;have hi : i < ops.size := (Array.getElem?_eq_some_iff.1 ho).1;have h1 := (hp.num i _ (hD i hi)).2.1;rw [ho] at h1;cases h1;exact (hp.num i _ (hD i hi)).2.2.1 e he hb
 refine zh1 hm (r.drawOk f1) (fun i hi => ?_) hQ;have := (hst i hi).2;rw [(hp.num i _ (hD i hi)).1] at this;exact this
structure MaskOk (bef : Nat) (ow : List Nat) (N : List (Option ABlk)) (M : List (Option ABlk)) : Prop where
 len : M.length = N.length
 ok : ∀ (k : Nat) x, M[k]? = some (some x) → N[k]? = some (some x) ∧ ∃ j, ow[k]? = some j ∧ Nat.testBit bef j = true
structure EntOk (ops : Array Oper) (all : List DOp) (H : AHeap) (L0 : List (Option ABlk)) (ow : List Nat) (N : List (Option ABlk)) (e : HE) : Prop where
 mem : e.d ∈ all ∧ e.d.free = false
 new : ∀ b, b % 2 = 0 → nb H (L0.length + N.length) ≤ b → e.pre.get b = none ∧ e.t.has b = false
 old : ∀ (k : Nat) j x, ow[k]? = some j → N[k]? = some (some x) → (e.pre.get (nb H (L0.length + k)) ≠ none → Nat.testBit e.d.bef j = true ∨ Nat.testBit (befS ops j) e.d.i = true ∨ e.d.i = j) ∧ (e.t.has (nb H (L0.length + k)) = true → Nat.testBit (befS ops j) e.d.i = true ∨ e.d.i = j)
structure DInv (ops : Array Oper) (all : List DOp) (dsx : DS) (l : EL) (H : AHeap) (lo : Nat) (L0 : List (Option ABlk)) (ow : List Nat) (N : List (Option ABlk)) : Prop where
 env : ∀ x, dsx.env.get x = lk l x
 heap : dsx.heap = ext H lo (L0 ++ N)
 own : ow.length = N.length
 cl : Closed H
 ent : ∀ e ∈ dsx.hist, EntOk ops all H L0 ow N e
 view : ∀ bef M, MaskOk bef ow N M → ∀ m z, (ext H lo (L0 ++ M)).blks.get m = some z → (viewA bef dsx.base.blks dsx.hist).get m = some z
structure SeqE (P : Program) (rd : Option Nat) (nt : Nat) (ops : Array Oper) (r : List Oper) (i : Nat) (ds : List Nat) (l : EL) (H : AHeap) (lo : Nat) (L0 : List (Option ABlk)) (ow : List Nat) (N : List (Option ABlk)) (K : St → Prop) : Prop where
 out : ∀ all, planN ops.toList 0 .nil = some all → statOk ops = true → (∀ j o, r[j]? = some o → ops[i + j]? = some o) → r.length + i = ops.size → ∀ dsx, DInv ops all dsx l H lo L0 ow N → ∃ dsf ts l', DRun P rd nt ops all ds (all.drop i) dsx dsf ts ∧ (∀ x, dsf.env.get x = lk l' x) ∧ K ⟨ofA l', ds, dsf.heap⟩
structure SeqD (P : Program) (rd : Option Nat) (nt : Nat) (ops : Array Oper) (r : List Oper) (i : Nat) (ds : List Nat) (l : EL) (H : AHeap) (lo : Nat) (L0 : List (Option ABlk)) (ow : List Nat) (N : List ABlk) (K : St → Prop) : Prop where
 out : SeqE P rd nt ops r i ds l H lo L0 ow (N.map some) K
variable {ds : List Nat} {l : EL} {H : AHeap} {lo : Nat} {L0 : List (Option ABlk)} {ow : List Nat} {N : List (Option ABlk)} {K : St → Prop} {i : Nat} {r : List Oper}
theorem se_nil (hk : K ⟨ofA l, ds, ext H lo (L0 ++ N)⟩) : SeqE P rd nt ops [] i ds l H lo L0 ow N K := by
 refine ⟨fun all hall hst hr hlen dsx hi => ?_⟩;have hp := zgc hall
 have : all.drop i = [] := by
  rw [List.drop_eq_nil_iff, hp.len]; simp at hlen; omega
 rw [this];exact ⟨dsx, [], l, .nil, hi.env, by rw [hi.heap]; exact hk⟩
theorem zlM {c : Code} {s : St} {e e' : Env} {ds : List Nat} {h : AHeap} {Q : Ex → St → Prop} (hc : CodeT P rd nt c s (fun x s' => x = .normal ∧ s' = ⟨e, ds, h⟩)) (he : ∀ t v, e'.get t = some v → e.get t = some v) (hq : Q .normal ⟨e', ds, h⟩) : CodeT P rd nt c s Q :=
 fun Γ F a w hs hF => wpIn_mono (hc Γ F a w hs hF) fun x a' w' hp => by
  obtain ⟨y, s', Γ', h1, ⟨rfl, rfl⟩, h3, h4⟩ := hp;exact ⟨.normal, ⟨e', ds, h⟩, Γ', h1, hq, h3.to he (.refl _), h4⟩
theorem zfC {H : AHeap} (hc : Closed H) {m : Nat} (h : H.next ≤ m) : H.blks.get m = none := by
 have := hc (2 * m) (by omega) (by simp only [AHeap.fresh]; omega);rw [AHeap.get_even _ (by omega)] at this;rw [show m = 2 * m / 2 by omega]; exact this
theorem zax [PC P] {id : Nat} {ls : List Oper} {Qn : St → Prop} {Qe : Nat → St → Prop} {Qr : St → Prop} (hc : Closed H) (hst : statOk ⟨ls⟩ = true) (h : SeqD P rd nt ⟨ls⟩ ls 0 ds l H lo L0 [] [] Qn) : CT P rd nt (.region id ⟨ls⟩ true) ⟨ofA l, ds, ext H lo L0⟩ Qn Qe Qr := by
 cases hall : planN ls 0 .nil with
 | none => unfold statOk at hst; simp only at hst; rw [hall] at hst; cases hst
 | some all =>
  have hI : DInv ⟨ls⟩ all ⟨ofA l, ext H lo L0, ext H lo L0, []⟩ l H lo L0 [] [] := by
   refine ⟨zaG l, by simp, rfl, hc, fun e he => (by cases he), fun bef M hM m z hz => ?_⟩;have : M = [] := List.eq_nil_of_length_eq_zero hM.len;subst this;simp only [List.append_nil] at hz;exact hz
  obtain ⟨dsf, ts, l', h1, h2, h3⟩ := h.out.out all hall hst (fun j o hj => by simpa using hj) (by simp) _ hI;have := zh2 PC.ok.mixed (zgc (ops := ⟨ls⟩) hall) (s := ⟨ofA l, ds, ext H lo L0⟩) (id := id) (Q := fun x s' => x = .normal ∧ s' = ⟨dsf.env, ds, dsf.heap⟩) h1 ⟨rfl, rfl⟩;exact ⟨zlM this (fun t v hv => by rw [h2, ← zaG]; exact hv) h3⟩
theorem zfl {all : List DOp} (hall : planN ops.toList 0 .nil = some all) (hst : statOk ops = true) {o : Oper} (ho : ops[i]? = some o) :
  ∃ d, all[i]? = some d ∧ d.i = i ∧ d.o = o ∧ d.free = isFree o.op ∧ d.bef = befS ops i ∧ (seriesS ops i = true → ∀ u ∈ all, d.apart u = true → u.free = true) ∧
   (∀ u ∈ all, d.apart u = true → ∀ x, u.o.dst = some x → d.o.dst ≠ some x ∧ x ∉ reads ops d.o) := by
 have hp := zgc hall;have hi : i < all.length := by rw [hp.len]; exact (Array.getElem?_eq_some_iff.1 ho).1
 have hd : all[i]? = some all[i] := by simp [hi]
 obtain ⟨n1, n2, _, _⟩ := hp.num i _ hd;refine ⟨all[i], hd, n1, by rw [ho] at n2; cases n2; rfl, by rw [hp.free _ (List.getElem_mem hi)]; rw [ho] at n2; cases n2; rfl, ?_, ?_, ?_⟩
 ·unfold befS; rw [hall]; simp only [hd]
 ·intro ha u hu hau;unfold seriesS at ha;rw [hall] at ha;simp only [hd, List.all_eq_true] at ha;simpa [hau] using ha u hu
 ·intro u hu hau x hx;unfold statOk at hst;rw [hall] at hst;simp only [List.all_eq_true] at hst;have := hst all[i] (List.getElem_mem hi) u hu;rw [hau, hx] at this;simp only [Bool.not_true, Bool.false_or, Bool.and_eq_true, Bool.not_eq_true'] at this;refine ⟨fun e => ?_, fun hm => ?_⟩
  ·rw [e] at this; simp at this
  ·have h2 := this.2;rw [List.contains_eq_mem] at h2;simp [hm] at h2
def adOf (all : List DOp) (d : DOp) : List Nat := all.filterMap fun u => if d.apart u then u.o.dst else none
theorem zbH {all : List DOp} {d : DOp} {x : Nat} : x ∈ adOf all d ↔ ∃ u ∈ all, d.apart u = true ∧ u.o.dst = some x := by
 unfold adOf;rw [List.mem_filterMap];constructor
 ·rintro ⟨u, hu, h⟩
  by_cases ha : d.apart u = true
  ·rw [if_pos ha] at h; exact ⟨u, hu, ha, h⟩
  ·rw [if_neg ha] at h; cases h
 ·rintro ⟨u, hu, ha, h⟩
  exact ⟨u, hu, by rw [if_pos ha]; exact h⟩
theorem zoO (bef : Nat) : MaskOk bef ow N (N.map fun _ => none) := by
 refine ⟨by simp, fun k x h => ?_⟩;rw [List.getElem?_map] at h
 cases hk : N[k]? with
 | none => rw [hk] at h; cases h
 | some y => rw [hk] at h; cases h
theorem zb6 {N : List ABlk} (bef : Nat) : MaskOk bef ow (N.map some) (N.map fun _ => none) := by
 have := zoO (ow := ow) (N := N.map some) bef;rw [List.map_map] at this;exact this
theorem zqu {bef : Nat} (hl : ow.length = N.length) (h : ow.all (fun j => Nat.testBit bef j) = true) : MaskOk bef ow N N := by
 refine ⟨rfl, fun k x hx => ⟨hx, ?_⟩⟩;have hlt : k < N.length := (List.getElem?_eq_some_iff.1 hx).1;refine ⟨ow[k], by simp [hl, hlt], ?_⟩;rw [List.all_eq_true] at h;exact h _ (List.getElem_mem _)
theorem zdJ {N : List ABlk} {bef : Nat} (hl : ow.length = N.length) (h : ow.all (fun j => Nat.testBit bef j) = true) : MaskOk bef ow (N.map some) (N.map some) :=
 zqu (by simpa using hl) h
def upd (dst : Option Nat) (v : Value) (l : EL) : EL := match dst with
 | some d => (d, v) :: l
 | none => l
theorem zdv {dst : Option Nat} {v : Value} {l : EL} {x : Nat} : lk (upd dst v l) x = if dst = some x then some v else lk l x := by
 cases dst with
 | none => simp [upd]
 | some d =>
  simp only [upd, lk]
  cases hb : Nat.beq d x with
  | true => rw [if_pos (by rw [Nat.eq_of_beq_eq_true hb])]
  | false => rw [if_neg (fun e => by cases e; simp at hb)]
theorem se_core {o : Oper} {v : Value} {M : List (Option ABlk)} {Y : List ABlk} (hfree : isFree o.op = false) (hM : MaskOk (befS ops i) ow N M)
  (hop : ∀ ad : List Nat, (∀ x ∈ ad, x ∉ reads ops o) → OpT P rd nt ops i ⟨ofA (fl ad l), ds, ext H lo (L0 ++ M)⟩ (fun s => s = ⟨ofA (upd o.dst v (fl ad l)), ds, ext H lo (L0 ++ M ++ Y.map some)⟩))
  (hk : SeqE P rd nt ops r (i + 1) ds (upd o.dst v l) H lo L0 (ow ++ Y.map fun _ => i) (N ++ Y.map some) K) : SeqE P rd nt ops (o :: r) i ds l H lo L0 ow N K := by
 refine ⟨fun all hall hst hr hlen dsx hI => ?_⟩;have ho : ops[i]? = some o := by simpa using hr 0 o rfl
 obtain ⟨d, hd, di, dO, df, db, _, dsep⟩ := zfl hall hst ho;rw [hfree] at df;have hdi : i < all.length := (List.getElem?_eq_some_iff.1 hd).1
 have hdrop : all.drop i = d :: all.drop (i + 1) := by
  rw [List.drop_eq_getElem_cons hdi]
  congr 1
  have := List.getElem?_eq_getElem hdi;rw [hd] at this; cases this; rfl
 have hlM : (L0 ++ M).length = (L0 ++ N).length := by simp [hM.len]
 have hop' := hop (adOf all d) (fun x hx => by
  obtain ⟨u, hu, ha, hx⟩ := zbH.1 hx;rw [← dO]; exact (dsep u hu ha x hx).2)
 rw [← di] at hop'
 let t : DT := ⟨⟨ofA (fl (adOf all d) l), ds, ext H lo (L0 ++ M)⟩, ⟨ofA (upd o.dst v (fl (adOf all d) l)), ds, ext H lo (L0 ++ M ++ Y.map some)⟩, .rng (H.next + (L0 ++ M).length) Y.length (ext H lo (L0 ++ M ++ Y.map some)).blks⟩
 let ds' : DS := ⟨ofA (upd o.dst v l), ext H lo (L0 ++ (N ++ Y.map some)), dsx.base, ⟨d, t.pre.heap, t.t⟩ :: dsx.hist⟩
 have hfr : (ext H lo (L0 ++ M)).fresh = dsx.heap.fresh := by rw [hI.heap, zal, zal, hlM]
 have hlen2 : (L0 ++ M ++ Y.map some).length = (L0 ++ (N ++ Y.map some)).length := by simp [hM.len]
 have has : ∀ x, t.t.has x = true ↔ x % 2 = 0 ∧ nb H (L0 ++ M).length ≤ x ∧ x < nb H ((L0 ++ M).length + Y.length) := by
  intro x;show (own x && Nat.ble (2 * (H.next + (L0 ++ M).length)) x && Nat.blt x (2 * (H.next + (L0 ++ M).length + Y.length))) = true ↔ _;rw [Bool.and_eq_true, Bool.and_eq_true, zao, Nat.ble_eq, Nat.blt_eq];simp only [nb];omega
 have getNew : ∀ x, t.t.has x = true → (ext H lo (L0 ++ M ++ Y.map some)).get x = (ext H lo (L0 ++ (N ++ Y.map some))).get x := by
  intro x hx;obtain ⟨h1, h2, h3⟩ := (has x).1 hx;rw [AHeap.get_even _ h1, AHeap.get_even _ h1];simp only [ext, zbo];simp only [nb] at h2 h3;rw [if_pos (by omega), if_pos (by omega)];have e1 : (L0 ++ M ++ Y.map some)[x / 2 - H.next]? = (Y.map some)[x / 2 - H.next - (L0 ++ M).length]? := List.getElem?_append_right (by omega)
  have e2 : (L0 ++ (N ++ Y.map some))[x / 2 - H.next]? = (Y.map some)[x / 2 - H.next - (L0 ++ M).length]? := by
   rw [← List.append_assoc, List.getElem?_append_right (by rw [← hlM]; omega), hlM]
  rw [e1, e2]
 have getOld : ∀ x, t.t.has x = false → (ext H lo (L0 ++ (N ++ Y.map some))).get x = (ext H lo (L0 ++ N)).get x := by
  intro x hx;rcases Nat.mod_two_eq_zero_or_one x with h1 | h1
  ·rw [AHeap.get_even _ h1, AHeap.get_even _ h1];simp only [ext, zbo]
   have hn : ¬ (nb H (L0 ++ M).length ≤ x ∧ x < nb H ((L0 ++ M).length + Y.length)) := by
    intro h; have := (has x).2 ⟨h1, h⟩; rw [hx] at this; cases this
   simp only [nb] at hn;by_cases hle : H.next ≤ x / 2
   ·rw [if_pos hle, if_pos hle, ← List.append_assoc];by_cases hlt : x / 2 - H.next < (L0 ++ N).length
    ·rw [List.getElem?_append_left hlt]
    ·rw [List.getElem?_append_right (by omega), List.getElem?_eq_none (l := Y.map some) (by simp only [List.length_map]; rw [← hlM] at hlt ⊢; omega), List.getElem?_eq_none (l := L0 ++ N) (by omega)]
   ·rw [if_neg hle, if_neg hle]
  ·rw [AHeap.get_odd _ h1, AHeap.get_odd _ h1]; rfl
 have hstep : StepOk all ds dsx d ds' t := by
  refine ⟨?_, rfl, hfr, fun u hu ha x hx => (dsep u hu ha x hx).1, ?_, ?_, ?_, ?_, ?_, rfl, ?_, ?_, ?_, ?_, ?_, ?_, ?_, ?_, ?_, ?_⟩
  ·intro x w hw;have hw' : lk (fl (adOf all d) l) x = some w := by rw [← zaG]; exact hw
   rw [zhq] at hw';split at hw'
   ·cases hw'
   ·rename_i hc;refine ⟨by rw [hI.env]; exact hw', fun u hu ha hx => hc ?_⟩;rw [List.contains_eq_mem];simpa using zbH.2 ⟨u, hu, ha, hx⟩
  ·show (ext H lo _).fresh = (ext H lo _).fresh;rw [zal, zal, hlen2]
  ·show dsx.heap.fresh ≤ (ext H lo _).fresh;rw [← hfr, zal, zal];simp only [nb, List.length_append]; omega
  ·intro x;show (ofA (upd o.dst v l)).get x = if d.o.dst = some x then (ofA (upd o.dst v (fl (adOf all d) l))).get x else dsx.env.get x
   rw [dO, hI.env, zaG, zaG, zdv, zdv];split <;> simp_all
  ·intro x;show (ext H lo (L0 ++ (N ++ Y.map some))).get x = if t.t.has x then (ext H lo (L0 ++ M ++ Y.map some)).get x else dsx.heap.get x
   cases hx : t.t.has x with
   | true => rw [if_pos rfl, getNew x hx]
   | false => rw [if_neg (by simp), getOld x hx, hI.heap]
  ·show H.base = dsx.heap.base;rw [hI.heap]; rfl
  ·show _ = if d.free then _ else _
   rw [df]; rfl
  ·show min lo H.fresh ≤ dsx.heap.low;rw [hI.heap]; exact Nat.le_refl _
  ·intro x hx hlt;exact Nat.le_refl (min lo H.fresh)
  ·intro b hb hh;right
   have hn : ¬ (nb H (L0 ++ M).length ≤ b ∧ b < nb H ((L0 ++ M).length + Y.length)) := by
    intro h; have := (has b).2 ⟨hb, h⟩; rw [hh] at this; cases this
   have hF : (ext H lo (L0 ++ M ++ Y.map some)).fresh = nb H ((L0 ++ M).length + Y.length) := by rw [zal]; congr 1; simp; omega
   by_cases hle : nb H ((L0 ++ M).length + Y.length) ≤ b
   ·left; show (ext H lo (L0 ++ M ++ Y.map some)).fresh ≤ b;rw [hF]; exact hle
   ·right;show (ext H lo (L0 ++ M ++ Y.map some)).get b = (ext H lo (L0 ++ M)).get b;rw [AHeap.get_even _ hb, AHeap.get_even _ hb];simp only [ext, zbo];simp only [nb] at hn hle;by_cases hge : H.next ≤ b / 2
    ·rw [if_pos hge, if_pos hge, List.getElem?_append_left (by omega)]
    ·rw [if_neg hge, if_neg hge]
  ·intro h; rw [df] at h; cases h
  ·intro h; cases h
  ·intro k c src h;have h' : Touch.rng (H.next + (L0 ++ M).length) Y.length (ext H lo (L0 ++ M ++ Y.map some)).blks = Touch.rng k c src := h;cases h';refine ⟨?_, ?_, rfl⟩
   ·rw [← hfr, zal]; rfl
   ·show _ = (ext H lo (L0 ++ M ++ Y.map some)).fresh;rw [zal]; simp only [nb, List.length_append, List.length_map]; omega
  ·intro b y h; cases h
  ·intro b k c src h; cases h
  ·right; right; right;intro x z hz;rcases Nat.mod_two_eq_zero_or_one x with h1 | h1
   ·right;refine ⟨h1, ?_⟩;rw [db];refine hI.view _ M hM _ _ ?_;have hz' : (ext H lo (L0 ++ M)).get x = some z := hz;rw [AHeap.get_even _ h1] at hz';exact hz'
   ·left;refine ⟨h1, ?_⟩;have hz' : (ext H lo (L0 ++ M)).get x = some z := hz;rw [AHeap.get_odd _ h1] at hz';rw [hI.heap, AHeap.get_odd _ h1]; exact hz'
 have hent : ∀ e ∈ ds'.hist, EntOk ops all H L0 (ow ++ Y.map fun _ => i) (N ++ Y.map some) e := by
  intro e he
  have hle : ∀ b, nb H (L0.length + (N ++ Y.map some).length) ≤ b → nb H (L0.length + N.length) ≤ b := fun b hb => by
   rw [List.length_append] at hb; simp only [nb] at hb ⊢; omega
  have oldE : ∀ {k : Nat} {x : ABlk}, k < N.length → (N ++ Y.map some)[k]? = some (some x) → N[k]? = some (some x) := fun hk hx => by
   rwa [List.getElem?_append_left hk] at hx
  rcases List.mem_cons.1 he with rfl | he
  ·refine ⟨⟨List.mem_of_getElem? hd, df⟩, fun b hb hge => ⟨?_, ?_⟩, fun k j x hj hx => ⟨fun hne => ?_, fun hh => ?_⟩⟩
   ·refine zbp hI.cl b hb ?_;rw [zal];have := hle b hge;rw [List.length_append, hM.len]; exact this
   ·cases hh : t.t.has b with
    | false => rfl
    | true =>
     exfalso;have h3 := ((has b).1 hh).2.2;rw [List.length_append, hM.len] at h3;rw [List.length_append, List.length_map] at hge;simp only [nb] at h3 hge;omega
   ·-- it lay there before
    have hkN : k < N.length := by
     rcases Nat.lt_or_ge k N.length with h | h
     ·exact h
     ·exfalso;apply hne;refine zbp hI.cl _ (zao.1 (zat _)) ?_;rw [zal, List.length_append, hM.len];simp only [nb]; omega
    have hmk : ∃ o', M[k]? = some o' := ⟨_, List.getElem?_eq_getElem (by rw [hM.len]; exact hkN)⟩
    obtain ⟨o', ho'⟩ := hmk
    cases o' with
    | none =>
     exfalso;apply hne;show (ext H lo (L0 ++ M)).get _ = none;rw [zbq hI.cl, if_pos ⟨zao.1 (zat _), zbf _⟩];have e1 : nb H (L0.length + k) / 2 - H.next = L0.length + k := by simp only [nb]; omega
     rw [e1, List.getElem?_append_right (by omega), Nat.add_sub_cancel_left, ho']
    | some y =>
     obtain ⟨_, j', g2, g3⟩ := hM.ok k y ho';rw [List.getElem?_append_left (by rw [hI.own]; exact hkN), g2] at hj;cases hj;left;show Nat.testBit d.bef _ = true;rw [db]; exact g3
   ·have h3 := (has _).1 hh;rw [List.length_append, hM.len] at h3;have hge : N.length ≤ k := by have := h3.2.1; simp only [nb] at this; omega
    rw [List.getElem?_append_right (by rw [hI.own]; exact hge), List.getElem?_map] at hj
    cases hY : Y[k - ow.length]? with
    | none => rw [hY] at hj; cases hj
    | some y =>
     rw [hY] at hj;right;show d.i = j;rw [di]; simpa using hj
  ·obtain ⟨m1, m2, m3⟩ := hI.ent e he;refine ⟨m1, fun b hb hge => m2 b hb (hle b hge), fun k j x hj hx => ?_⟩;rcases Nat.lt_or_ge k N.length with h | h
   ·rw [List.getElem?_append_left (by rw [hI.own]; exact h)] at hj;exact m3 k j x hj (oldE h hx)
   ·obtain ⟨n1, n2⟩ := m2 (nb H (L0.length + k)) (zao.1 (zat _)) (by simp only [nb]; omega);exact ⟨fun hne => absurd n1 hne, fun hh => by rw [n2] at hh; cases hh⟩
 have hI' : DInv ops all ds' (upd o.dst v l) H lo L0 (ow ++ Y.map fun _ => i) (N ++ Y.map some) := by
  refine ⟨zaG _, rfl, by simp [hI.own], hI.cl, hent, fun bef M' hM' m z hz => ?_⟩;have hlM' : M'.length = N.length + Y.length := by rw [hM'.len]; simp
  have hv : viewA bef ds'.base.blks ds'.hist = if Nat.testBit bef d.i then copyR Y.length (H.next + (L0 ++ M).length) (ext H lo (L0 ++ M ++ Y.map some)).blks (viewA bef dsx.base.blks dsx.hist) else viewA bef dsx.base.blks dsx.hist := by
   simp only [ds', t, viewA]
  rw [hv]
  have old : ∀ M1, MaskOk bef ow N M1 → (∀ k : Nat, k < N.length → M1[k]? = M'[k]?) → (m < H.next + L0.length + N.length) → (viewA bef dsx.base.blks dsx.hist).get m = some z := by
   intro M1 h1 h2 h3;refine hI.view bef M1 h1 m z ?_;simp only [ext, zbo] at hz ⊢;by_cases hge : H.next ≤ m
   ·rw [if_pos hge] at hz ⊢
    have : (L0 ++ M1)[m - H.next]? = (L0 ++ M')[m - H.next]? := by
     by_cases h4 : m - H.next < L0.length
     ·rw [List.getElem?_append_left h4, List.getElem?_append_left h4]
     ·rw [List.getElem?_append_right (by omega), List.getElem?_append_right (by omega)];exact h2 _ (by omega)
    rw [this]; exact hz
   ·rw [if_neg hge] at hz ⊢; exact hz
  have hM1 : MaskOk bef ow N (M'.take N.length) := by
   refine ⟨by rw [List.length_take]; omega, fun k x hk => ?_⟩;rw [List.getElem?_take] at hk;split at hk
   ·rename_i hlt;obtain ⟨g1, j, g2, g3⟩ := hM'.ok k x hk;rw [List.getElem?_append_left hlt] at g1;rw [List.getElem?_append_left (by rw [hI.own]; exact hlt)] at g2;exact ⟨g1, j, g2, g3⟩
   ·cases hk
  have hview0 : (m < H.next + L0.length + N.length) → (viewA bef dsx.base.blks dsx.hist).get m = some z := fun h3 =>
   old _ hM1 (fun k hk => by rw [List.getElem?_take, if_pos hk]) h3
  by_cases hm : m < H.next + L0.length + N.length
  ·have := hview0 hm;split
   ·rw [zbZ, if_neg (by rw [List.length_append, hM.len]; omega)]; exact this
   ·exact this
  ·by_cases hm2 : m < H.next + L0.length + N.length + Y.length
   ·-- one of the new ones
    have hz2 := hz;simp only [ext, zbo] at hz2;rw [if_pos (by omega)] at hz2;rw [List.getElem?_append_right (by omega)] at hz2
    have hidx : ∃ o', M'[m - H.next - L0.length]? = some o' := by
     have : m - H.next - L0.length < M'.length := by omega
     exact ⟨_, List.getElem?_eq_getElem this⟩
    obtain ⟨o', ho'⟩ := hidx;rw [ho'] at hz2
    cases o' with
    | none =>
     simp only at hz2
     rw [zfC hI.cl (by omega)] at hz2; cases hz2
    | some x =>
     simp only [Option.some.injEq] at hz2;subst hz2;obtain ⟨g1, j, g2, g3⟩ := hM'.ok _ _ ho';rw [List.getElem?_append_right (by rw [hI.own]; omega)] at g2;rw [List.getElem?_map] at g2
     have hj : j = i := by
      cases hY : Y[m - H.next - L0.length - ow.length]? with
      | none => rw [hY] at g2; cases g2
      | some y => rw [hY] at g2; simpa using g2.symm
     subst hj;rw [di, if_pos g3, zbZ, if_pos (by rw [List.length_append, hM.len]; omega)];simp only [ext, zbo];rw [if_pos (by omega)];have e1 : (L0 ++ M ++ Y.map some)[m - H.next]? = (Y.map some)[m - H.next - (L0 ++ M).length]? := List.getElem?_append_right (by rw [List.length_append, hM.len]; omega);rw [e1, List.getElem?_map];rw [List.getElem?_append_right (by omega)] at g1;have e2 : m - H.next - (L0 ++ M).length = m - H.next - L0.length - N.length := by rw [List.length_append, hM.len]; omega
     rw [List.getElem?_map] at g1;rw [e2, g1]
   ·have hz2 := hz;simp only [ext, zbo] at hz2;rw [if_pos (by omega), List.getElem?_eq_none (l := L0 ++ M') (by simp; omega)] at hz2;simp only at hz2;rw [zfC hI.cl (by omega)] at hz2; cases hz2
 obtain ⟨dsf, ts, l', h1, h2⟩ := hk.out all hall hst (fun j o' hj => by
  have := hr (j + 1) o' (by simpa using hj);have e : i + 1 + j = i + (j + 1) := by omega
  rw [e]; exact this) (by simp at hlen; omega) ds' hI'
 exact ⟨dsf, t :: ts, l', by rw [hdrop]; exact .cons hstep hop' h1, h2⟩
theorem zp0 {o : Oper} {v : Value} (hfree : isFree o.op = true)
  (hop : ∀ (ad : List Nat) (h : AHeap), (∀ x ∈ ad, x ∉ reads ops o) → OpT P rd nt ops i ⟨ofA (fl ad l), ds, h⟩ (fun s => s = ⟨ofA (upd o.dst v (fl ad l)), ds, h⟩))
  (hk : SeqE P rd nt ops r (i + 1) ds (upd o.dst v l) H lo L0 ow N K) : SeqE P rd nt ops (o :: r) i ds l H lo L0 ow N K := by
 refine ⟨fun all hall hst hr hlen dsx hI => ?_⟩;have ho : ops[i]? = some o := by simpa using hr 0 o rfl
 obtain ⟨d, hd, di, dO, df, db, _, dsep⟩ := zfl hall hst ho;rw [hfree] at df;have hdi : i < all.length := (List.getElem?_eq_some_iff.1 hd).1
 have hdrop : all.drop i = d :: all.drop (i + 1) := by
  rw [List.drop_eq_getElem_cons hdi]
  congr 1
  have := List.getElem?_eq_getElem hdi;rw [hd] at this; cases this; rfl
 let e0 : AHeap := ⟨.nil, fun _ => none, dsx.heap.next, dsx.heap.fresh⟩
 have he0 : ∀ x, e0.get x = none := by
  intro x;rcases Nat.mod_two_eq_zero_or_one x with h | h
  ·rw [AHeap.get_even _ h]; exact Tr.zbS _
  ·rw [AHeap.get_odd _ h]
 have hop' := hop (adOf all d) e0 (fun x hx => by
  obtain ⟨u, hu, ha, hx⟩ := zbH.1 hx;rw [← dO]; exact (dsep u hu ha x hx).2)
 rw [← di] at hop'
 let t : DT := ⟨⟨ofA (fl (adOf all d) l), ds, e0⟩, ⟨ofA (upd o.dst v (fl (adOf all d) l)), ds, e0⟩, .non⟩
 let ds' : DS := ⟨ofA (upd o.dst v l), dsx.heap, dsx.base, dsx.hist⟩
 have hstep : StepOk all ds dsx d ds' t := by
  refine ⟨?_, rfl, rfl, fun u hu ha x hx => (dsep u hu ha x hx).1, rfl, Nat.le_refl _, ?_, ?_, rfl, rfl, ?_, Nat.le_refl _, ?_, ?_, ?_, ?_, ?_, ?_, ?_, .inl df⟩
  ·intro x w hw;have hw' : lk (fl (adOf all d) l) x = some w := by rw [← zaG]; exact hw
   rw [zhq] at hw';split at hw'
   ·cases hw'
   ·rename_i hc;refine ⟨by rw [hI.env]; exact hw', fun u hu ha hx => hc ?_⟩;rw [List.contains_eq_mem];simpa using zbH.2 ⟨u, hu, ha, hx⟩
  ·intro x;show (ofA (upd o.dst v l)).get x = if d.o.dst = some x then (ofA (upd o.dst v (fl (adOf all d) l))).get x else dsx.env.get x
   rw [dO, hI.env, zaG, zaG, zdv, zdv];split <;> simp_all
  ·intro x;show dsx.heap.get x = if (Touch.non).has x then e0.get x else dsx.heap.get x
   simp [Touch.has]
  ·show dsx.hist = if d.free then dsx.hist else _
   rw [df]; rfl
  ·intro x hx;have : (Touch.non).has x = true := hx;simp [Touch.has] at this
  ·intro b hb hh;right; right; rfl
  ·intro _; exact ⟨rfl, he0⟩
  ·intro h; cases h
  ·intro k c src h; cases h
  ·intro b y h; cases h
  ·intro b k c src h; cases h
 have hI' : DInv ops all ds' (upd o.dst v l) H lo L0 ow N := ⟨zaG _, hI.heap, hI.own, hI.cl, hI.ent, hI.view⟩
 obtain ⟨dsf, ts, l', h1, h2⟩ := hk.out all hall hst (fun j o' hj => by
  have := hr (j + 1) o' (by simpa using hj);have e : i + 1 + j = i + (j + 1) := by omega
  rw [e]; exact this) (by simp at hlen; omega) ds' hI'
 exact ⟨dsf, t :: ts, l', by rw [hdrop]; exact .cons hstep hop' h1, h2⟩
theorem zmD {o : Oper} {v : Value} {h' H' : AHeap} {lo' : Nat} {L' : List (Option ABlk)} (hfree : isFree o.op = false) (hser : seriesS ops i = true)
  (hop : ∀ ad : List Nat, (∀ x ∈ ad, x ∉ reads ops o) → OpT P rd nt ops i ⟨ofA (fl ad l), ds, ext H lo (L0 ++ N)⟩ (fun s => s = ⟨ofA (upd o.dst v (fl ad l)), ds, h'⟩))
  (q : HQ h' (ext H' lo' L')) (hb : H'.base = H.base) (hc' : Closed H') (hlow : min lo' H'.fresh ≤ min lo H.fresh) (hfr : (ext H lo (L0 ++ N)).fresh ≤ (ext H' lo' L').fresh)
  (hk : SeqE P rd nt ops r (i + 1) ds (upd o.dst v l) H' lo' L' [] [] K) : SeqE P rd nt ops (o :: r) i ds l H lo L0 ow N K := by
 refine ⟨fun all hall hst hr hlen dsx hI => ?_⟩;have ho : ops[i]? = some o := by simpa using hr 0 o rfl
 obtain ⟨d, hd, di, dO, df, db, dser, dsep⟩ := zfl hall hst ho;rw [hfree] at df;have hdi : i < all.length := (List.getElem?_eq_some_iff.1 hd).1
 have hdrop : all.drop i = d :: all.drop (i + 1) := by
  rw [List.drop_eq_getElem_cons hdi]
  congr 1
  have := List.getElem?_eq_getElem hdi;rw [hd] at this; cases this; rfl
 have hop' := hop (adOf all d) (fun x hx => by
  obtain ⟨u, hu, ha, hx⟩ := zbH.1 hx;rw [← dO]; exact (dsep u hu ha x hx).2)
 rw [← di] at hop'
 let t : DT := ⟨⟨ofA (fl (adOf all d) l), ds, ext H lo (L0 ++ N)⟩, ⟨ofA (upd o.dst v (fl (adOf all d) l)), ds, h'⟩, .all⟩
 let ds' : DS := ⟨ofA (upd o.dst v l), ext H' lo' L', ext H' lo' L', []⟩
 have hstep : StepOk all ds dsx d ds' t := by
  refine ⟨?_, rfl, by rw [hI.heap], fun u hu ha x hx => (dsep u hu ha x hx).1, q.fresh.symm, by rw [hI.heap]; show _ ≤ h'.fresh; rw [q.fresh]; exact hfr, ?_, ?_, ?_, rfl, rfl, ?_, ?_, ?_, ?_, ?_, ?_, ?_, ?_, ?_⟩
  ·intro x w hw;have hw' : lk (fl (adOf all d) l) x = some w := by rw [← zaG]; exact hw
   rw [zhq] at hw';split at hw'
   ·cases hw'
   ·rename_i hc;refine ⟨by rw [hI.env]; exact hw', fun u hu ha hx => hc ?_⟩;rw [List.contains_eq_mem];simpa using zbH.2 ⟨u, hu, ha, hx⟩
  ·intro x;show (ofA (upd o.dst v l)).get x = if d.o.dst = some x then (ofA (upd o.dst v (fl (adOf all d) l))).get x else dsx.env.get x
   rw [dO, hI.env, zaG, zaG, zdv, zdv];split <;> simp_all
  ·intro x;show (ext H' lo' L').get x = if own x then h'.get x else dsx.heap.get x
   rcases Nat.mod_two_eq_zero_or_one x with h | h
   ·rw [if_pos (zao.2 h), q.get]
   ·rw [if_neg (by rw [zao]; omega), AHeap.get_odd _ h, hI.heap, AHeap.get_odd _ h];show H'.base _ = H.base _;rw [hb]
  ·rw [hI.heap]; exact hb
  ·rw [hI.heap]; exact hlow
  ·intro x hx hlt;show min lo' H'.fresh ≤ h'.low;rw [q.low]; exact Nat.le_refl _
  ·intro b hb2 hh;have : own b = false := hh;rw [zao.2 hb2] at this; cases this
  ·intro h; rw [df] at h; cases h
  ·intro _; exact ⟨fun u hu ha => dser hser u hu ha, fun x => by rw [hI.heap]⟩
  ·intro k c src h; cases h
  ·intro b y h; cases h
  ·intro b k c src h; cases h
  ·right; left; exact ⟨fun u hu ha => dser hser u hu ha, fun x => by rw [hI.heap]⟩
 have hI' : DInv ops all ds' (upd o.dst v l) H' lo' L' [] [] := by
  refine ⟨zaG _, by simp [ds'], rfl, hc', fun e he => (by cases he), fun bef M hM m z hz => ?_⟩;have : M = [] := List.eq_nil_of_length_eq_zero hM.len;subst this;simp only [List.append_nil] at hz;exact hz
 obtain ⟨dsf, ts, l', h1, h2⟩ := hk.out all hall hst (fun j o' hj => by
  have := hr (j + 1) o' (by simpa using hj);have e : i + 1 + j = i + (j + 1) := by omega
  rw [e]; exact this) (by simp at hlen; omega) ds' hI'
 exact ⟨dsf, t :: ts, l', by rw [hdrop]; exact .cons hstep hop' h1, h2⟩
end
section
variable {P : Program} {rd : Option Nat} {nt : Nat} {ops : Array Oper} {ds : List Nat} {l : EL} {H : AHeap} {lo : Nat} {L0 : List (Option ABlk)} {ow : List Nat} {N : List ABlk} {K : St → Prop} {i : Nat} {r : List Oper}
theorem zaz (hk : K ⟨ofA l, ds, ext H lo (L0 ++ N.map some)⟩) : SeqD P rd nt ops [] i ds l H lo L0 ow N K := ⟨se_nil hk⟩
theorem zn4 {o : Oper} {v : Value} {M : List (Option ABlk)} {Y : List ABlk} (hfree : isFree o.op = false) (hM : MaskOk (befS ops i) ow (N.map some) M)
  (hop : ∀ ad : List Nat, (∀ x ∈ ad, x ∉ reads ops o) → OpT P rd nt ops i ⟨ofA (fl ad l), ds, ext H lo (L0 ++ M)⟩ (fun s => s = ⟨ofA (upd o.dst v (fl ad l)), ds, ext H lo (L0 ++ M ++ Y.map some)⟩))
  (hk : SeqD P rd nt ops r (i + 1) ds (upd o.dst v l) H lo L0 (ow ++ Y.map fun _ => i) (N ++ Y) K) : SeqD P rd nt ops (o :: r) i ds l H lo L0 ow N K := by
 have h := hk.out;rw [List.map_append] at h;exact ⟨se_core hfree hM hop h⟩
theorem zf7 {o : Oper} {v : Value} (hfree : isFree o.op = true)
  (hop : ∀ (ad : List Nat) (h : AHeap), (∀ x ∈ ad, x ∉ reads ops o) → OpT P rd nt ops i ⟨ofA (fl ad l), ds, h⟩ (fun s => s = ⟨ofA (upd o.dst v (fl ad l)), ds, h⟩))
  (hk : SeqD P rd nt ops r (i + 1) ds (upd o.dst v l) H lo L0 ow N K) : SeqD P rd nt ops (o :: r) i ds l H lo L0 ow N K := ⟨zp0 hfree hop hk.out⟩
theorem zd1 {o : Oper} {v : Value} {h' H' : AHeap} {lo' : Nat} {L' : List (Option ABlk)} (hfree : isFree o.op = false) (hser : seriesS ops i = true)
  (hop : ∀ ad : List Nat, (∀ x ∈ ad, x ∉ reads ops o) → OpT P rd nt ops i ⟨ofA (fl ad l), ds, ext H lo (L0 ++ N.map some)⟩ (fun s => s = ⟨ofA (upd o.dst v (fl ad l)), ds, h'⟩))
  (q : HQ h' (ext H' lo' L')) (hb : H'.base = H.base) (hc' : Closed H') (hlow : min lo' H'.fresh ≤ min lo H.fresh) (hfr : (ext H lo (L0 ++ N.map some)).fresh ≤ (ext H' lo' L').fresh)
  (hk : SeqD P rd nt ops r (i + 1) ds (upd o.dst v l) H' lo' L' [] [] K) : SeqD P rd nt ops (o :: r) i ds l H lo L0 ow N K := ⟨zmD hfree hser hop q hb hc' hlow hfr hk.out⟩
end
end Go.Den
end
noncomputable section
namespace Go.Den
section
variable {P : Program} {rd : Option Nat} {nt : Nat} {ops : Array Oper} {ds : List Nat} {l : EL} {H : AHeap} {lo : Nat} {L0 : List (Option ABlk)} {ow : List Nat} {N : List ABlk} {K : St → Prop} {i : Nat} {r : List Oper} {ty : TypeId} {pos : String} {af : Array Edge}
theorem ev_fl {ad : List Nat} {x : Operand} (h : ∀ t, x = .tmp t → t ∉ ad) : evalA (ofA (fl ad l)) x = evalA (ofA l) x := by
 rw [zaE, zaE]
 cases x with
 | tmp t =>
  simp only [ev, zhq];rw [if_neg]
  rw [List.contains_eq_mem]; simpa using h t rfl
 | _ => rfl
theorem zk7 {o : Oper} {t : Nat} (h : Operand.tmp t ∈ o.op.operands.toList) : t ∈ reads ops o := by
 unfold reads;rw [List.mem_append]; left;rw [List.mem_filterMap];exact ⟨_, h, rfl⟩
theorem zgE {o : Oper} {j t : Nat} {w : Bool} (hg : o.guard = some (j, w)) (hd : gdst ops j = some t) : t ∈ reads ops o := by
 unfold reads;rw [List.mem_append]; right;simp [hg, hd]
theorem zha {o : Oper} {h h' : AHeap} {v : Value} {ad : List Nat} (hop : Does P l o.op h v h') (ha : ∀ x ∈ ad, x ∉ reads ops o) : opA P (ctxOf P) (ofA (fl ad l)) o.op h = some [(v, h')] := by
 rw [← hop.out];exact zoA fun x hx => ev_fl fun t e hm => ha t hm (zk7 (by rw [← e]; exact hx))
theorem zrn {o : Oper} {c : Call} {f : FuncId} {args : List Value} {ad : List Nat} (hc : o.op = .call c) (ht : tgtE l c = some (f, args)) (ha : ∀ x ∈ ad, x ∉ reads ops o) : target (ofA (fl ad l)) c = some (.fn f args) := by
 have h0 := zgq ht;have hx : ∀ x ∈ c.operands.toList, evalA (ofA (fl ad l)) x = evalA (ofA l) x := fun x hx => ev_fl fun t e hm => ha t hm (zk7 (by rw [hc, ← e]; exact hx))
 unfold target at h0 ⊢;split at h0
 ·rename_i fo hfo;have h1 := hx fo (by simp [Call.operands, hfo]);have h2 : evalL (ofA (fl ad l)) c.args.toList = evalL (ofA l) c.args.toList := zcF fun x hm => hx x (by simp only [Call.operands, hfo]; simp; right; simpa using hm)
  simp only [h1, h2]; exact h0
 ·cases h0
theorem zj1 {o : Oper} {j t : Nat} {w b : Bool} {ad : List Nat} (hg : o.guard = some (j, w)) (hd : gdst ops j = some t) (hl : lk l t = some (.bool b)) (ha : ∀ x ∈ ad, x ∉ reads ops o) : wantedA o ops (ofA (fl ad l)) = some (b == w) := by
 refine zet hg hd ?_;rw [zhq, if_neg]
 ·exact hl
 ·rw [List.contains_eq_mem];have := fun hm => ha t hm (zgE hg hd)
  simpa using this
theorem zfk {d : Nat} {op : Op} {g : Option (Nat × Bool)} {v : Value} {l' : EL} (hd : Nat.blt d nt = true) : putDst nt ⟨some d, op, ty, pos, af, g⟩ v (ofA l') = some (ofA (upd (some d) v l')) := by
 simp only [putDst];rw [Nat.blt_eq] at hd;rw [if_pos hd]; rfl
theorem zdB {o : Oper} {v : Value} {M : List (Option ABlk)} (hfree : isFree o.op = false) (hM : MaskOk (befS ops i) ow (N.map some) M)
  (hop : ∀ ad : List Nat, (∀ x ∈ ad, x ∉ reads ops o) → OpT P rd nt ops i ⟨ofA (fl ad l), ds, ext H lo (L0 ++ M)⟩ (fun s => s = ⟨ofA (upd o.dst v (fl ad l)), ds, ext H lo (L0 ++ M)⟩))
  (hk : SeqD P rd nt ops r (i + 1) ds (upd o.dst v l) H lo L0 ow N K) : SeqD P rd nt ops (o :: r) i ds l H lo L0 ow N K :=
 zn4 (Y := []) hfree hM (fun ad ha => by simpa using hop ad ha) (by simpa using hk)
theorem zie {o : Oper} {v : Value} {M : List (Option ABlk)} {y : ABlk} (hfree : isFree o.op = false) (hM : MaskOk (befS ops i) ow (N.map some) M)
  (hop : ∀ ad : List Nat, (∀ x ∈ ad, x ∉ reads ops o) → OpT P rd nt ops i ⟨ofA (fl ad l), ds, ext H lo (L0 ++ M)⟩ (fun s => s = ⟨ofA (upd o.dst v (fl ad l)), ds, ext H lo (L0 ++ M ++ [some y])⟩))
  (hk : SeqD P rd nt ops r (i + 1) ds (upd o.dst v l) H lo L0 (ow ++ [i]) (N ++ [y]) K) : SeqD P rd nt ops (o :: r) i ds l H lo L0 ow N K :=
 zn4 (Y := [y]) hfree hM hop hk
theorem zdw {o : Oper} {r : List Oper} (h : ops[i]? = some o → SeqD P rd nt ops (o :: r) i ds l H lo L0 ow N K) : SeqD P rd nt ops (o :: r) i ds l H lo L0 ow N K :=
 ⟨⟨fun all hall hst hr hlen dsx hI => (h (by simpa using hr 0 o rfl)).out.out all hall hst hr hlen dsx hI⟩⟩
theorem zgP {o : Oper} {d : Nat} {op : Op} [PC P] {h h' : AHeap} {v : Value} {ad : List Nat} (ho : ops[i]? = some o) (e : o = ⟨some d, op, ty, pos, af, none⟩) (hop : Does P l op h v h') (hd : Nat.blt d nt = true) (ha : ∀ x ∈ ad, x ∉ reads ops o) :
  OpT P rd nt ops i ⟨ofA (fl ad l), ds, h⟩ (fun s => s = ⟨ofA (upd o.dst v (fl ad l)), ds, h'⟩) := by
 subst e;refine zbE PC.ok ho (s := ⟨ofA (fl ad l), ds, h⟩) rfl (zha hop ha) fun u H' hm => ?_
 rw [List.mem_singleton] at hm;cases hm;exact ⟨_, zfk hd, rfl⟩
theorem zoy {o : Oper} {d : Nat} {op : Op} [PC P] {h h' : AHeap} {v : Value} {ad : List Nat} {j t : Nat} {w : Bool} (ho : ops[i]? = some o) (e : o = ⟨some d, op, ty, pos, af, some (j, w)⟩) (hg : gdst ops j = some t) (hl : lk l t = some (.bool w)) (hop : Does P l op h v h') (hd : Nat.blt d nt = true) (ha : ∀ x ∈ ad, x ∉ reads ops o) :
  OpT P rd nt ops i ⟨ofA (fl ad l), ds, h⟩ (fun s => s = ⟨ofA (upd o.dst v (fl ad l)), ds, h'⟩) := by
 subst e;refine zbE PC.ok ho (s := ⟨ofA (fl ad l), ds, h⟩) (by rw [zj1 rfl hg hl ha]; simp) (zha hop ha) fun u H' hm => ?_
 rw [List.mem_singleton] at hm;cases hm;exact ⟨_, zfk hd, rfl⟩
theorem zaS [PC P] {d : Nat} {op : Op} {v : Value} (hfree : isFree op = false) (hop : Does P l op (ext H lo (L0 ++ N.map fun _ => none)) v (ext H lo (L0 ++ N.map fun _ => none))) (hd : Nat.blt d nt = true)
  (hk : SeqD P rd nt ops r (i + 1) ds ((d, v) :: l) H lo L0 ow N K) : SeqD P rd nt ops (⟨some d, op, ty, pos, af, none⟩ :: r) i ds l H lo L0 ow N K :=
 zdw fun ho => zdB hfree (zb6 _) (fun _ ha => zgP ho rfl hop hd ha) hk
theorem zrt [PC P] {d : Nat} {op : Op} {v : Nat → Value} {x : ABlk} (hfree : isFree op = false) (hop : Does P l op (ext H lo (L0 ++ N.map fun _ => none)) (v (ext H lo (L0 ++ N.map fun _ => none)).fresh) ((ext H lo (L0 ++ N.map fun _ => none)).add x)) (hd : Nat.blt d nt = true)
  (hk : SeqD P rd nt ops r (i + 1) ds ((d, v (nb H (L0.length + N.length))) :: l) H lo L0 (ow ++ [i]) (N ++ [x]) K) : SeqD P rd nt ops (⟨some d, op, ty, pos, af, none⟩ :: r) i ds l H lo L0 ow N K := by
 have e : (ext H lo (L0 ++ N.map fun _ => none)).fresh = nb H (L0.length + N.length) := by rw [zal]; simp
 rw [e, za2] at hop;exact zdw fun ho => zie hfree (zb6 _) (fun _ ha => zgP ho rfl hop hd ha) hk
theorem zj9 [PC P] {d : Nat} {op : Op} {x : ABlk} (hfree : isFree op = false) (hop : Does P l op (ext H lo (L0 ++ N.map fun _ => none)) (.pointer (some ⟨(ext H lo (L0 ++ N.map fun _ => none)).fresh, 0, none⟩)) ((ext H lo (L0 ++ N.map fun _ => none)).add x)) (hd : Nat.blt d nt = true)
  (hk : SeqD P rd nt ops r (i + 1) ds ((d, .pointer (some ⟨nb H (L0.length + N.length), 0, none⟩)) :: l) H lo L0 (ow ++ [i]) (N ++ [x]) K) : SeqD P rd nt ops (⟨some d, op, ty, pos, af, none⟩ :: r) i ds l H lo L0 ow N K :=
 zrt (v := fun b => .pointer (some ⟨b, 0, none⟩)) hfree hop hd hk
theorem zcf [PC P] {d n c : Nat} {op : Op} {x : ABlk} (hfree : isFree op = false) (hop : Does P l op (ext H lo (L0 ++ N.map fun _ => none)) (.slice (some ⟨(ext H lo (L0 ++ N.map fun _ => none)).fresh, 0, none⟩) n c) ((ext H lo (L0 ++ N.map fun _ => none)).add x)) (hd : Nat.blt d nt = true)
  (hk : SeqD P rd nt ops r (i + 1) ds ((d, .slice (some ⟨nb H (L0.length + N.length), 0, none⟩) n c) :: l) H lo L0 (ow ++ [i]) (N ++ [x]) K) : SeqD P rd nt ops (⟨some d, op, ty, pos, af, none⟩ :: r) i ds l H lo L0 ow N K :=
 zrt (v := fun b => .slice (some ⟨b, 0, none⟩) n c) hfree hop hd hk
theorem zbv [PC P] {d : Nat} {op : Op} {v : Value} {j t : Nat} {w : Bool} (hfree : isFree op = false) (hg : gdst ops j = some t) (hl : lk l t = some (.bool w)) (hop : Does P l op (ext H lo (L0 ++ N.map fun _ => none)) v (ext H lo (L0 ++ N.map fun _ => none))) (hd : Nat.blt d nt = true)
  (hk : SeqD P rd nt ops r (i + 1) ds ((d, v) :: l) H lo L0 ow N K) : SeqD P rd nt ops (⟨some d, op, ty, pos, af, some (j, w)⟩ :: r) i ds l H lo L0 ow N K :=
 zdw fun ho => zdB hfree (zb6 _) (fun _ ha => zoy ho rfl hg hl hop hd ha) hk
theorem zbu {d : Nat} {op : Op} {j t : Nat} {w b : Bool} (hg : gdst ops j = some t) (hl : lk l t = some (.bool b)) (hb : b = !w) (hd : Nat.blt d nt = true)
  (hk : SeqD P rd nt ops r (i + 1) ds ((d, undefV) :: l) H lo L0 ow N K) : SeqD P rd nt ops (⟨some d, op, ty, pos, af, some (j, w)⟩ :: r) i ds l H lo L0 ow N K := by
 refine zdw fun ho => ?_
 have key : ∀ (ad : List Nat) (h : AHeap), (∀ x ∈ ad, x ∉ reads ops ⟨some d, op, ty, pos, af, some (j, w)⟩) → OpT P rd nt ops i ⟨ofA (fl ad l), ds, h⟩ (fun s => s = ⟨ofA (upd (some d) undefV (fl ad l)), ds, h⟩) := fun ad h ha =>
  zeO ho (s := ⟨ofA (fl ad l), ds, h⟩) (by rw [zj1 rfl hg hl ha, hb]; cases w <;> rfl) (zfk hd) rfl
 cases hf : isFree op with
 | true => exact zf7 hf key hk
 | false => exact zdB hf (zb6 _) (fun ad ha => key ad _ ha) hk
theorem zkk {o : Oper} {d : Nat} {c : Call} {h h' : AHeap} {v : Value} {ad : List Nat} {f : FuncId} {args : List Value} (ho : ops[i]? = some o) (e : o = ⟨some d, .call c, ty, pos, af, none⟩) (ht : tgtE l c = some (f, args)) (hc : Ret P f args h v h') (hd : Nat.blt d nt = true) (ha : ∀ x ∈ ad, x ∉ reads ops o) :
  OpT P rd nt ops i ⟨ofA (fl ad l), ds, h⟩ (fun s => s = ⟨ofA (upd o.dst v (fl ad l)), ds, h'⟩) := by
 subst e;refine zeP ho (s := ⟨ofA (fl ad l), ds, h⟩) rfl rfl (zrn rfl ht ha) hc fun u H' hm => ?_
 obtain ⟨rfl, rfl⟩ := hm;exact ⟨_, zfk hd, rfl⟩
theorem zaC {d : Nat} {c : Call} {v : Value} {f : FuncId} {args : List Value} (ht : tgtE l c = some (f, args)) (hc : Ret P f args (ext H lo (L0 ++ N.map fun _ => none)) v (ext H lo (L0 ++ N.map fun _ => none))) (hd : Nat.blt d nt = true)
  (hk : SeqD P rd nt ops r (i + 1) ds ((d, v) :: l) H lo L0 ow N K) : SeqD P rd nt ops (⟨some d, .call c, ty, pos, af, none⟩ :: r) i ds l H lo L0 ow N K :=
 zdw fun ho => zdB rfl (zb6 _) (fun _ ha => zkk ho rfl ht hc hd ha) hk
theorem zbc {d : Nat} {c : Call} {v : Value} {f : FuncId} {args : List Value} (ht : tgtE l c = some (f, args)) (hw : ow.length = N.length) (hm : ow.all (fun j => Nat.testBit (befS ops i) j) = true) (hc : Ret P f args (ext H lo (L0 ++ N.map some)) v (ext H lo (L0 ++ N.map some))) (hd : Nat.blt d nt = true)
  (hk : SeqD P rd nt ops r (i + 1) ds ((d, v) :: l) H lo L0 ow N K) : SeqD P rd nt ops (⟨some d, .call c, ty, pos, af, none⟩ :: r) i ds l H lo L0 ow N K :=
 zdw fun ho => zdB rfl (zdJ hw hm) (fun _ ha => zkk ho rfl ht hc hd ha) hk
theorem zbk {d : Nat} {c : Call} {v : Nat → Value} {x : ABlk} {f : FuncId} {args : List Value} (ht : tgtE l c = some (f, args)) (hw : ow.length = N.length) (hm : ow.all (fun j => Nat.testBit (befS ops i) j) = true)
  (hc : Ret P f args (ext H lo (L0 ++ N.map some)) (v (ext H lo (L0 ++ N.map some)).fresh) ((ext H lo (L0 ++ N.map some)).add x)) (hd : Nat.blt d nt = true)
  (hk : SeqD P rd nt ops r (i + 1) ds ((d, v (nb H (L0.length + N.length))) :: l) H lo L0 (ow ++ [i]) (N ++ [x]) K) : SeqD P rd nt ops (⟨some d, .call c, ty, pos, af, none⟩ :: r) i ds l H lo L0 ow N K := by
 have e : (ext H lo (L0 ++ N.map some)).fresh = nb H (L0.length + N.length) := by rw [zal]; simp
 rw [e, za2] at hc;exact zdw fun ho => zie rfl (zdJ hw hm) (fun _ ha => zkk ho rfl ht hc hd ha) hk
theorem zau [PC P] {d : Nat} {op : Op} {v : Value} (hfree : isFree op = true) (hop : ∀ h, Does P l op h v h) (hd : Nat.blt d nt = true)
  (hk : SeqD P rd nt ops r (i + 1) ds ((d, v) :: l) H lo L0 ow N K) : SeqD P rd nt ops (⟨some d, op, ty, pos, af, none⟩ :: r) i ds l H lo L0 ow N K :=
 zdw fun ho => zf7 hfree (fun _ h ha => zgP ho rfl (hop h) hd ha) hk
theorem za1 [PC P] {d : Nat} {op : Op} {v : Value} {j t : Nat} {w : Bool} (hfree : isFree op = true) (hg : gdst ops j = some t) (hl : lk l t = some (.bool w)) (hop : ∀ h, Does P l op h v h) (hd : Nat.blt d nt = true)
  (hk : SeqD P rd nt ops r (i + 1) ds ((d, v) :: l) H lo L0 ow N K) : SeqD P rd nt ops (⟨some d, op, ty, pos, af, some (j, w)⟩ :: r) i ds l H lo L0 ow N K :=
 zdw fun ho => zf7 hfree (fun _ h ha => zoy ho rfl hg hl (hop h) hd ha) hk
theorem zcV [PC P] {op : Op} {v : Value} {k : Nat} {x : ABlk} (hfree : isFree op = false) (hser : seriesS ops i = true) (hc : Closed H) (hlt : k < (L0 ++ N.map some).length) (hop : Does P l op (ext H lo (L0 ++ N.map some)) v ((ext H lo (L0 ++ N.map some)).put (nb H k) x))
  (hk : SeqD P rd nt ops r (i + 1) ds l H lo ((L0 ++ N.map some).set k (some x)) [] [] K) : SeqD P rd nt ops (⟨none, op, ty, pos, af, none⟩ :: r) i ds l H lo L0 ow N K := by
 refine zdw fun ho => zd1 (v := v) hfree hser (fun ad ha => ?_) (zem hc hlt x) rfl hc (Nat.le_refl _) (by rw [zal, zal, List.length_set]; exact Nat.le_refl _) hk
 refine zbE PC.ok ho (s := ⟨ofA (fl ad l), ds, _⟩) rfl (zha hop ha) fun u H' hm => ?_
 rw [List.mem_singleton] at hm;cases hm;exact ⟨_, rfl, rfl⟩
theorem zid {t : Nat} {b : Bool} (hl : lk l t = some (.bool b)) (h1 : b = true → SeqD P rd nt ops r i ds ((t, .bool true) :: l) H lo L0 ow N K) (h2 : b = false → SeqD P rd nt ops r i ds ((t, .bool false) :: l) H lo L0 ow N K) :
  SeqD P rd nt ops r i ds l H lo L0 ow N K := by
 have key : ∀ c, b = c → SeqD P rd nt ops r i ds ((t, .bool c) :: l) H lo L0 ow N K → SeqD P rd nt ops r i ds l H lo L0 ow N K := by
  intro c hc hs;refine ⟨⟨fun all hall hst hr hlen dsx hI => hs.out.out all hall hst hr hlen dsx ⟨fun x => ?_, hI.heap, hI.own, hI.cl, hI.ent, hI.view⟩⟩⟩;rw [hI.env];simp only [lk]
  cases hb : Nat.beq t x with
  | true => rw [← Nat.eq_of_beq_eq_true hb, hl, hc]
  | false => rfl
 cases b with
 | true => exact key true rfl (h1 rfl)
 | false => exact key false rfl (h2 rfl)
end
end Go.Den
namespace Go.Den
def Ext (H H' : AHeap) : Prop := ∀ b x, H.get b = some x → H'.get b = some x
theorem Ext.refl (H : AHeap) : Ext H H := fun _ _ h => h
theorem Ext.trans {H H' H2 : AHeap} (h : Ext H H') (k : Ext H' H2) : Ext H H2 := fun b x hb => k b x (h b x hb)
theorem zag {H : AHeap} (hc : Closed H) {lo : Nat} {L : List (Option ABlk)} : Ext H (ext H lo L) := fun _ _ h => zaj hc h
def idxOf {α : Type} (p : α → Bool) : List α → Nat → Int
 | [], _ => -1
 | a :: r, i => if p a then (i : Int) else idxOf p r (i + 1)
theorem zeS {α : Type} {p : α → Bool} : ∀ {l : List α} {i : Nat} (hi : i < l.length) (k : Nat), (∀ j (hj : j < l.length), j < i → p l[j] = false) → p l[i] = true → idxOf p l k = ((k + i : Nat) : Int)
 | [], i, hi, k, _, _ => by simp at hi
 | a :: r, 0, hi, k, _, h => by simp only [List.getElem_cons_zero] at h; simp [idxOf, h]
 | a :: r, i + 1, hi, k, h1, h => by
  have h0 : p a = false := h1 0 (by simp) (by omega);simp only [List.getElem_cons_succ] at h;have := zeS (l := r) (i := i) (by simpa using hi) (k + 1) (fun j hj hji => by have := h1 (j + 1) (by simpa using hj) (by omega); simpa using this) h;simp only [idxOf, h0];rw [if_neg (by simp), this];omega
theorem zc5 {α : Type} {p : α → Bool} : ∀ {l : List α} (k : Nat), (∀ j (hj : j < l.length), p l[j] = false) → idxOf p l k = -1
 | [], k, _ => rfl
 | a :: r, k, h => by
  have h0 : p a = false := h 0 (by simp);simp only [idxOf, h0];rw [if_neg (by simp)];exact zc5 (k + 1) fun j hj => by have := h (j + 1) (by simpa using hj); simpa using this
theorem zdL {α : Type} {p : α → Bool} : ∀ (l : List α) (k : Nat), decide (idxOf p l k ≥ 0) = l.any p
 | [], k => by simp [idxOf]
 | a :: r, k => by
  have ih := zdL (p := p) r (k + 1);by_cases h : p a = true
  ·simp [idxOf, h]
  ·simp only [Bool.not_eq_true] at h;have e : idxOf p (a :: r) k = idxOf p r (k + 1) := by simp [idxOf, h]
   rw [e, ih]; simp [h]
end Go.Den
end
noncomputable section
namespace Go.Den
open Go.RowKit Go.ChangeShapes Go.WideShapes
structure BB where
 i : BI
 cs : List Value
def gaOf (B : Nat → Option BB) : Ga := fun b => if b % 2 = 1 then (match B (b / 2) with
 | some x => some x.i
 | none => if b / 2 < 1000 then some ⟨b / 2, 0, 0, 0, 0, false⟩ else none) else none
def heapOf (B : Nat → Option BB) : AHeap := ⟨.nil, fun k => (B k).map fun x => .cells x.cs x.i.esz false true, 1, 0⟩
structure BBok (B : Nat → Option BB) (W : World) : Prop where
 glob : ∀ k x, B k = some x → k < 1000 → x.i.real = k ∧ x.i.shift = 0 ∧ x.i.rsize = x.i.size
 blk : ∀ k x, B k = some x → ∃ rc e fz, W.heap[x.i.real]? = some (.cells rc e fz) ∧ x.i.size = x.cs.length ∧ x.i.slack = false ∧ x.i.shift + x.cs.length ≤ rc.size ∧ x.i.rsize = rc.size ∧
  ∀ (j : Nat) (v : Value), x.cs[j]? = some v → ∃ v', rc[x.i.shift + j]? = some v' ∧ VR (gaOf B) v v'
theorem zhM {B : Nat → Option BB} {k : Nat} {x : BB} (h : B k = some x) : (heapOf B).get (2 * k + 1) = some (.cells x.cs x.i.esz false true) := by
 rw [AHeap.get_odd _ (by omega)];show (B ((2 * k + 1) / 2)).map _ = _;rw [show (2 * k + 1) / 2 = k by omega, h]; rfl
theorem zb8 {B : Nat → Option BB} {b : Nat} {y : ABlk} (h : (heapOf B).get b = some y) : b % 2 = 1 ∧ ∃ x, B (b / 2) = some x ∧ y = .cells x.cs x.i.esz false true := by
 rcases Nat.mod_two_eq_zero_or_one b with h1 | h1
 ·rw [AHeap.get_even _ h1] at h;simp only [heapOf, Tr.zbS] at h; cases h
 ·rw [AHeap.get_odd _ h1] at h;refine ⟨h1, ?_⟩
  cases hx : B (b / 2) with
  | none => simp only [heapOf, hx] at h; cases h
  | some x => simp only [heapOf, hx, Option.map_some, Option.some.injEq] at h; exact ⟨x, rfl, h.symm⟩
theorem zkr {B : Nat → Option BB} {k : Nat} {x : BB} (h : B k = some x) : gaOf B (2 * k + 1) = some x.i := by
 unfold gaOf;rw [if_pos (by omega), show (2 * k + 1) / 2 = k by omega, h]
theorem zmG {B : Nat → Option BB} {W : World} (h : BBok B W) : Rel (gaOf B) (heapOf B) W := by
 refine ⟨fun b i hb => ?_, fun b y hb => ?_, fun b y hb ho => ?_, fun b b' y y' i i' hb hb' _ _ hown => ?_⟩
 ·left;unfold gaOf at hb;split at hb
  ·assumption
  ·cases hb
 ·obtain ⟨h1, x, hx, rfl⟩ := zb8 hb;obtain ⟨rc, e, fz, k1, k2, k3, k4, k5, k6⟩ := h.blk _ x hx;refine ⟨x.i, _, ?_, k1, rc, e, fz, rfl, k2, rfl, k3, k4, k5, (fun h => by cases h), (fun h => by cases h), k6⟩;have := zkr hx;rw [show 2 * (b / 2) + 1 = b by omega] at this; exact this
 ·have := (zb8 hb).1;rw [zao] at ho; omega
 ·obtain ⟨_, x, _, rfl⟩ := zb8 hb;cases hown
theorem zkq {B : Nat → Option BB} {W : World} (h : BBok B W) : Glob (gaOf B) := by
 intro g hg
 cases hb : B g with
 | none =>
  refine ⟨⟨g, 0, 0, 0, 0, false⟩, ?_, rfl, rfl, rfl⟩;unfold gaOf;rw [if_pos (by omega), show (2 * g + 1) / 2 = g by omega, hb]
  simp [hg]
 | some x => exact ⟨x.i, zkr hb, h.glob g x hb hg⟩
theorem zhv {P : Program} {f : FuncId} {args args' : List Value} {B : Nat → Option BB} {W : World} {v : Value} {Q : Value → AHeap → Prop} (h : CallT P f args (heapOf B) Q) (hq : ∀ u k, Q u k → u = v) (hv : flatC v = true) (hB : BBok B W) (ha : All2 (VR (gaOf B)) args args') :
  Calls P f ⟨args'⟩ W fun e W' => e = .returned v ∧ Below W.heap.size W W' := by
 have := h.calls (gaOf B) W args' (zmG hB) (zkq hB) ha;rw [callsIn_wide] at this;refine this.mono fun e W' hp => ?_
 obtain ⟨v', u, H', Γ', rfl, hQ, hr, hadv, hvr⟩ := hp;have hu := hq u H' hQ;subst hu;have := hvr.flatC hv;subst this;refine ⟨rfl, hadv.os, hadv.tape, hadv.output, hadv.size, fun k hk => hadv.keep k hk ?_⟩
 rintro ⟨b, y, i, hb, hown, _, _⟩
 obtain ⟨_, x, _, rfl⟩ := zb8 hb;cases hown
theorem zev {H : Type} {enc : TypeId × Value → H} {P : Program} (hl : laidOutB P = true) {W W' : World} (hb : Below W.heap.size W W') {sp : Nat → Bool} :
  ∀ {ts : List TypeId} {vs : List Value} {ds : List (DataW H)} {ps : List MemPlace}, (ts.all fun t => P.readableRec t && decide (t < P.types.size)) = true → (∀ x ∈ ps, x.block < W.heap.size) → (∀ x ∈ ps, sp x.block = true) →
   DataW.TrodAll enc P W 0 (fun _ => true) true ts vs ds ps → DataW.TrodAll enc P W' 0 sp true ts vs ds ps
 | [], [], [], _, _, _, _, h => h
 | [], [], _ :: _, _, _, _, _, h => h.elim
 | [], _ :: _, _, _, _, _, _, h => h.elim
 | _ :: _, [], _, _, _, _, _, h => h.elim
 | _ :: _, _ :: _, [], _, _, _, _, h => h.elim
 | t :: ts, v :: vs, d :: ds, ps, hr, hlt, hsp, h => by
  obtain ⟨p, q, h1, h2, e⟩ := h;subst e;simp only [List.all_cons, Bool.and_eq_true, decide_eq_true_eq] at hr;refine ⟨p, q, WideElems.Trod_stays hl hr.1.1 hr.1.2 h1 (fun x hx => hb.same (hlt x (by simp [hx]))) (fun x hx => hsp x (by simp [hx])), ?_, rfl⟩;exact zev hl hb (by simpa using hr.2) (fun x hx => hlt x (by simp [hx])) (fun x hx => hsp x (by simp [hx])) h2
theorem zqA {H : Type} {enc : TypeId × Value → H} {P : Program} {f : Func} {s : ChangeSpec} {apart fresh handsOn again : Bool} {W W' : World} {args : Array Value} {ds gs : List (DataW H)} {before : List MemPlace} {tb : TypeId}
  (hl : laidOutB P = true) (hvars : s.vars = []) (hts : (f.params.toList.all fun t => P.readableRec t && decide (t < P.types.size)) = true)
  (hW : DataW.Whole enc P f.params.toList s.vars apart W args.toList ds gs before) (hs : s.fn H (ds ++ gs) = { results := [.lit (.bool true)], args := ds }) (hb : Below W.heap.size W W')
  (hr : f.resultTypes = #[tb]) (ht : P.underlying tb = some .bool) : s.post enc P f apart fresh handsOn again W args (.bool true) W' := by
 have hW0 := hW;obtain ⟨p, q, hA, hV, rfl, hfz, hnd⟩ := hW;rw [hvars] at hV;obtain ⟨rfl, rfl⟩ := trodVars_none hV;have hlt : ∀ x ∈ p, x.block < W.heap.size := fun x hx => hW0.lt x (by simp [hx])
 have hold : ∀ x ∈ p, (fun b => decide (b < W.heap.size)) x.block = true := fun x hx => by simpa using hlt x hx
 have hargs : ∀ sp : Nat → Bool, (∀ x ∈ p, sp x.block = true) → DataW.TrodAll enc P W' 0 sp true f.params.toList args.toList (s.fn H (ds ++ [])).args p := fun sp hsp => by
  rw [hs]; exact zev hl hb hts hlt hsp hA
 have hres : ∀ (b : Nat) (sp : Nat → Bool) (hd : Bool), DataW.TrodAll enc P W' b sp hd f.resultTypes.toList ((Value.bool true).resultList f.resultTypes.size) (s.fn H (ds ++ [])).results [] := fun b sp hd => by
  rw [hs];show DataW.TrodAll enc P W' b sp hd f.resultTypes.toList ((Value.bool true).resultList f.resultTypes.size) [.lit (.bool true)] [];rw [hr];exact trodAll_mk1 (shut_bool ht _)
 have hvs : ∀ sp : Nat → Bool, DataW.TrodVars enc P W' sp s.vars (s.fn H (ds ++ [])).vars [] := fun sp => by rw [hs, hvars]; rfl
 refine ⟨ds, [], p ++ [], [], p, [], hW0, hres _ _ _, hargs _ hold, hvs _, hb.frame _, fun _ => ?_⟩;refine ⟨ok_one hr rfl (okWide_bool_mk ht _), _, _, ([] ++ p) ++ [], ⟨[] ++ p, [], trodAll_append (hargs _ (fun _ _ => rfl)) (hres _ _ _), hvs _, rfl, ?_, ?_⟩, ?_⟩
 ·intro b off hp;have hp' : MemPlace.cell b off ∈ p ++ [] := by simpa using hp
  rw [hb.frozen (hlt _ (by simpa using hp))];exact hfz b off hp'
 ·intro ha;simpa using hnd ha
 ·intro x hx _;simpa using hx
def litV : Lit → Value
 | .bool b => .bool b
 | .int k n => .int k n
 | .float k b => .float k b
 | .string l => .string ⟨⟨l⟩⟩
 | .nil => .nilFunc
def datV {H : Type} : Nat → DataW H → Option (List Value)
 | 0, _ => none
 | _ + 1, .lit l => some [litV l]
 | n + 1, .agg xs => go n xs
 | _ + 1, _ => none
where
 go (n : Nat) : List (DataW H) → Option (List Value)
  | [] => some []
  | x :: r => match datV n x, go n r with
   | some a, some b => some (a ++ b)
   | _, _ => none
def contig (P : Program) : List Field → Nat → Option Nat
 | [], o => some o
 | f :: r, o => match Nat.beq f.offset o with
  | true => contig P r (o + P.cellsOf f.type)
  | false => none
def flatT (P : Program) : Nat → TypeId → Bool
 | 0, _ => false
 | n + 1, t => match P.underlying t with
  | some .bool | some (.int _) | some .string => true
  | some (.struct fs) => contig P fs.toList 0 == some (P.cellsOf t) && fs.toList.all fun f => flatT P n f.type
  | some (.array m e) => P.cellsOf t == m * P.cellsOf e && flatT P n e
  | _ => false
section
variable {H : Type} {enc : TypeId × Value → H} {P : Program} {w : World} {base : Nat} {sp : Nat → Bool} {held : Bool}
theorem zed {α β : Type} {f : α → Option β} {a : α} {r : List α} {ys : List β} (h : (a :: r).mapM f = some ys) : ∃ y zs, f a = some y ∧ r.mapM f = some zs ∧ ys = y :: zs := by
 rw [List.mapM_cons] at h
 cases hf : f a with
 | none => rw [hf] at h; cases h
 | some y =>
  rw [hf] at h
  cases hr : r.mapM f with
  | none => rw [hr] at h; cases h
  | some zs => rw [hr] at h; cases h; exact ⟨y, zs, rfl, rfl, rfl⟩
theorem zg1 {cs : List Value} {n fuel : Nat} (ih : ∀ {t : TypeId} {cs : List Value} {d : DataW H} {ps : List MemPlace}, flatT P n t = true → DataW.trod enc P w base sp held fuel t cs = some (d, ps) → datV n d = some cs) :
  ∀ {fs : List Field} {o : Nat} {xs : List (DataW H × List MemPlace)}, fs.all (fun f => flatT P n f.type) = true → contig P fs o = some cs.length →
   fs.mapM (fun f => DataW.trod enc P w base sp held fuel f.type ((cs.drop f.offset).take (P.cellsOf f.type))) = some xs → datV.go n (xs.map (·.1)) = some (cs.drop o)
 | [], o, xs, _, hc, hx => by
  simp only [List.mapM_nil] at hx;cases hx;simp only [contig, Option.some.injEq] at hc
  simp [datV.go, hc]
 | f :: r, o, xs, hf, hc, hx => by
  simp only [List.all_cons, Bool.and_eq_true] at hf;obtain ⟨y, zs, h1, h2, rfl⟩ := zed hx;simp only [contig] at hc;split at hc
  ·rename_i ho;have ho := Nat.eq_of_beq_eq_true ho;have k1 := ih hf.1 h1;have k2 := zg1 ih hf.2 hc h2;simp only [List.map_cons, datV.go, k1, k2];rw [ho, ← List.drop_drop, List.take_append_drop]
  ·cases hc
theorem zhN {cs : List Value} {n fuel m : Nat} {e : TypeId} (he : flatT P n e = true) (ih : ∀ {t : TypeId} {cs : List Value} {d : DataW H} {ps : List MemPlace}, flatT P n t = true → DataW.trod enc P w base sp held fuel t cs = some (d, ps) → datV n d = some cs) :
  ∀ {k j : Nat} {xs : List (DataW H × List MemPlace)}, cs.length = (j + k) * m → P.cellsOf e = m →
   (List.range' j k).mapM (fun i => DataW.trod enc P w base sp held fuel e ((cs.drop (i * P.cellsOf e)).take (P.cellsOf e))) = some xs → datV.go n (xs.map (·.1)) = some (cs.drop (j * m))
 | 0, j, xs, hl, hm, hx => by
  simp only [List.range'_zero, List.mapM_nil] at hx;cases hx;have : cs.length = j * m := by simpa using hl
  simp [datV.go, this]
 | k + 1, j, xs, hl, hm, hx => by
  rw [List.range'_succ] at hx;obtain ⟨y, zs, h1, h2, rfl⟩ := zed hx;have k1 := ih he h1;have k2 := zhN (k := k) (j := j + 1) he ih (by rw [hl]; congr 1; omega) hm h2;simp only [List.map_cons, datV.go, k1, k2];rw [hm, Nat.add_mul, Nat.one_mul, ← List.drop_drop, List.take_append_drop]
theorem zgo : ∀ (n : Nat) {fuel : Nat} {t : TypeId} {cs : List Value} {d : DataW H} {ps : List MemPlace}, flatT P n t = true → DataW.trod enc P w base sp held fuel t cs = some (d, ps) → datV n d = some cs
 | 0, fuel, t, cs, d, ps, h, _ => by simp [flatT] at h
 | n + 1, fuel, t, cs, d, ps, h, hd => by
  unfold flatT at h;split at h
  ·rename_i ht
   cases fuel with
   | zero => simp [DataW.trod] at hd
   | succ fuel =>
    unfold DataW.trod at hd;rw [ht] at hd;split at hd <;> simp_all;obtain ⟨rfl, rfl⟩ := hd;rfl
  ·rename_i k ht;obtain ⟨m, rfl, hx, _⟩ := DataW.trod_int ht hd;cases hx; rfl
  ·rename_i ht;obtain ⟨s, rfl, hx, _⟩ := DataW.trod_string ht hd;cases hx; rfl
  ·rename_i fs ht;rw [Bool.and_eq_true, beq_iff_eq] at h
   cases fuel with
   | zero => simp [DataW.trod] at hd
   | succ fuel =>
    unfold DataW.trod at hd;rw [ht] at hd;simp only at hd;split at hd
    ·rename_i hlen
     cases hm : fs.toList.mapM (fun f => DataW.trod enc P w base sp held fuel f.type ((cs.drop f.offset).take (P.cellsOf f.type))) with
     | none => rw [hm] at hd; cases hd
     | some xs =>
      rw [hm] at hd;simp only [Option.map_some, Option.some.injEq, Prod.mk.injEq] at hd;obtain ⟨rfl, _⟩ := hd;have := zg1 (fun {t} {cs} {d} {ps} a b => zgo n a b) h.2 (by rw [hlen]; exact h.1) hm;simpa [datV] using this
    ·cases hd
  ·rename_i m e ht;rw [Bool.and_eq_true, beq_iff_eq] at h
   cases fuel with
   | zero => simp [DataW.trod] at hd
   | succ fuel =>
    unfold DataW.trod at hd;rw [ht] at hd;simp only at hd;split at hd
    ·rename_i hlen
     cases hm : (List.range m).mapM (fun i => DataW.trod enc P w base sp held fuel e ((cs.drop (i * P.cellsOf e)).take (P.cellsOf e))) with
     | none => rw [hm] at hd; cases hd
     | some xs =>
      rw [hm] at hd;simp only [Option.map_some, Option.some.injEq, Prod.mk.injEq] at hd;obtain ⟨rfl, _⟩ := hd;rw [List.range_eq_range'] at hm;have := zhN (m := P.cellsOf e) h.2 (fun {t} {cs} {d} {ps} a b => zgo n a b) (by rw [hlen, h.1]; simp) rfl hm;simpa [datV] using this
    ·cases hd
  ·cases h
end
theorem zd5 {P : Program} {W : World} : ∀ {laid : List (String × DataW Unit)} {ps : List MemPlace}, DataW.LaidVars P W laid ps → ∀ {n : String} {d : DataW Unit} {g : Nat} {t : TypeId} {cs : List Value}, (n, d) ∈ laid → P.globalNamed n = some g → (P.globals[g]?).map (·.type) = some t →
  flatT P 8 t = true → datV 8 d = some cs → ∃ ct fz, W.heap[g]? = some (.cells ⟨cs⟩ ct fz)
 | [], _, _, _, _, _, _, _, h, _, _, _, _ => by cases h
 | (n', d') :: r, ps, hL, n, d, g, t, cs, h, hg, ht, hf, hd => by
  obtain ⟨g', t', cs', fuel, p, q, h1, h2, h3, h4, h5, _⟩ := hL;rcases List.mem_cons.1 h with e | h
  ·cases e;rw [hg] at h1; cases h1;rw [ht] at h2; cases h2;have := zgo 8 hf h4;rw [hd] at this;cases this;unfold World.var? at h3;rw [hg] at h3;simp only [Option.bind_some] at h3;split at h3
   ·rename_i c ct fz hw;cases h3;exact ⟨ct, fz, hw⟩
   ·cases h3
  ·exact zd5 h5 h hg ht hf hd
def laidBB (g : Nat) (cs : List Value) : BB := ⟨⟨g, cs.length, 0, cs.length, 0, false⟩, cs⟩
theorem flatVR {Γ : Ga} {cs : List Value} (h : cs.all flatC = true) {j : Nat} {v : Value} (hj : cs[j]? = some v) : VR Γ v v := by
 rw [List.all_eq_true] at h;have := h v (List.mem_of_getElem? hj);cases v <;> simp [flatC] at this <;> constructor
theorem zoU {B : Nat → Option BB} {W : World} {g : Nat} {cs : List Value} {ct : TypeId} {fz : Nat × Nat} (h : W.heap[g]? = some (.cells ⟨cs⟩ ct fz)) (hf : cs.all flatC = true) :
  ∃ rc e fz, W.heap[(laidBB g cs).i.real]? = some (.cells rc e fz) ∧ (laidBB g cs).i.size = (laidBB g cs).cs.length ∧ (laidBB g cs).i.slack = false ∧ (laidBB g cs).i.shift + (laidBB g cs).cs.length ≤ rc.size ∧ (laidBB g cs).i.rsize = rc.size ∧
   ∀ (j : Nat) (v : Value), (laidBB g cs).cs[j]? = some v → ∃ v', rc[(laidBB g cs).i.shift + j]? = some v' ∧ VR (gaOf B) v v' := by
 refine ⟨⟨cs⟩, ct, fz, h, rfl, rfl, by simp [laidBB], by simp [laidBB], fun j v hj => ⟨v, ?_, flatVR hf hj⟩⟩;simpa [laidBB] using hj
def Glo (B : Nat → Option BB) (H : AHeap) : Prop := ∀ k x, B k = some x → H.base k = some (.cells x.cs x.i.esz false true)
theorem Glo.ext {B : Nat → Option BB} {H : AHeap} (h : Glo B H) {lo : Nat} {L : List (Option ABlk)} : Glo B (ext H lo L) := h
theorem zn7 {P : Program} {f : FuncId} {args : List Value} {B : Nat → Option BB} {H : AHeap} {v : Value} (h : CallT P f args (heapOf B) (fun u _ => u = v)) (hBf : ∀ k x, B k = some x → x.cs.all flatC = true) (ha : args.all flatC = true) (hv : flatC v = true) (hG : Glo B H) : Ret P f args H v H := by
 refine ⟨h.enters, fun Γ w args' hr hg hA => ?_⟩
 let Γ0 : Ga := fun b => if b % 2 = 1 then Γ b else none
 have hle : Ga.le Γ0 Γ := fun b i hb => by
  have hb' : (if b % 2 = 1 then Γ b else none) = some i := hb;split at hb'
  ·exact hb'
  ·cases hb'
 have hodd : ∀ b, b % 2 = 1 → Γ0 b = Γ b := fun b hb => if_pos hb
 have sub : ∀ b y, (heapOf B).get b = some y → b % 2 = 1 ∧ H.get b = some y ∧ y.isOwn = false := by
  intro b y hb;obtain ⟨h1, x, hx, rfl⟩ := zb8 hb;refine ⟨h1, ?_, rfl⟩;rw [AHeap.get_odd _ h1]; exact hG _ _ hx
 have hr0 : Rel Γ0 (heapOf B) w := by
  refine ⟨fun b i hb => .inl ?_, fun b y hb => ?_, fun b y hb ho => ?_, fun b b' y y' i i' hb hb' _ _ hown => ?_⟩
  ·have hb' : (if b % 2 = 1 then Γ b else none) = some i := hb;split at hb'
   ·assumption
   ·cases hb'
  ·obtain ⟨h1, h2, _⟩ := sub b y hb;obtain ⟨i, o, k1, k2, k3⟩ := hr.blk b y h2;refine ⟨i, o, by rw [hodd b h1]; exact k1, k2, ?_⟩;obtain ⟨_, x, hx, rfl⟩ := zb8 hb;obtain ⟨rc, e, fz, q1, q2, q3, q4, q5, q6, q7, q8, q9⟩ := k3;refine ⟨rc, e, fz, q1, q2, q3, q4, q5, q6, q7, q8, fun k u hk => ?_⟩;obtain ⟨u', g1, g2⟩ := q9 k u hk;have hf := List.all_eq_true.1 (hBf _ x hx) u (List.mem_of_getElem? hk);have := g2.flatC hf;subst this;exact ⟨u', g1, flatVR (hBf _ x hx) hk⟩
  ·have := (sub b y hb).1;rw [zao] at ho; omega
  ·rw [(sub b y hb).2.2] at hown; cases hown
 have hg0 : Glob Γ0 := fun g hgl => by
  obtain ⟨i, h1, h2, h3⟩ := hg g hgl;exact ⟨i, by rw [hodd _ (by omega)]; exact h1, h2, h3⟩
 have hA0 : All2 (VR Γ0) args args' := by
  have e := VR.flatL hA ha;subst e;refine All2.mk rfl fun j a hj => ⟨a, hj, flatVR ha hj⟩
 refine (h.calls Γ0 w args' hr0 hg0 hA0).mono ?_
 rintro e w' ⟨v', u, H', Γ', rfl, rfl, k1, k2, k3⟩
 have := k3.flatC hv;subst this
 have keep : ∀ r, r < w.heap.size → w'.heap[r]? = w.heap[r]? := fun r hrl => k2.keep r hrl (by
  rintro ⟨b, y, i, hb, hown, _, _⟩
  rw [(sub b y hb).2.2] at hown; cases hown)
 refine ⟨v', v', H, Γ, rfl, ⟨rfl, rfl⟩, ⟨hr.dom, fun b y hb => ?_, hr.ownd, hr.sep⟩, ⟨fun _ _ => rfl, Nat.le_refl _, k2.size, fun r hrl _ => keep r hrl, fun r hm => .inr hm, k2.os, k2.tape, k2.output, .refl _⟩, ?_⟩
 ·obtain ⟨i, o, q1, q2, q3⟩ := hr.blk b y hb;exact ⟨i, o, q1, by rw [keep _ (Array.getElem?_eq_some_iff.1 q2).1]; exact q2, q3⟩
 ·have : ([v'] : List Value).all flatC = true := by simpa using hv
  exact flatVR (j := 0) this rfl
def allAre (p : Value → Bool) (r : Out (Value × AHeap)) : Bool := match r with
 | some l => l.all fun x => p x.1
 | none => false
def isTrue : Value → Bool
 | .bool true => true
 | _ => false
theorem zoW (u : Value) (h : isTrue u = true) : u = .bool true := by
 unfold isTrue at h;split at h
 ·rfl
 ·cases h
end Go.Den
end
noncomputable section
namespace Go.Den
section
variable {Γ Γ0 : Ga} {τ : Nat → Option Nat}
theorem zc1 {f : Value → Option Value} (hf : ∀ v v2 v', f v = some v2 → VR Γ v2 v' → VR Γ0 v v') : ∀ {l l2 l' : List Value}, renL f l = some l2 → All2 (VR Γ) l2 l' → All2 (VR Γ0) l l'
 | [], l2, l', h, ha => by simp only [renL] at h; cases h; cases ha; exact .nil
 | v :: r, l2, l', h, ha => by
  simp only [renL] at h;split at h
  ·rename_i a b h1 h2;cases h
   cases ha with
   | cons p q => exact .cons (hf _ _ _ h1 p) (zc1 hf h2 q)
  ·cases h
theorem zcz (hτ : ∀ b c, τ b = some c → Γ0 b = Γ c) : ∀ (d : Nat) {v v2 v' : Value}, renV τ d v = some v2 → VR Γ v2 v' → VR Γ0 v v'
 | 0, v, v2, v', h, _ => by simp [renV] at h
 | d + 1, v, v2, v', h, hv => by
  unfold renV at h;split at h
  ·cases h; cases hv; exact .bool _
  ·cases h; cases hv; exact .int _ _
  ·cases h; cases hv; exact .string _
  ·cases h; cases hv; exact .nilFunc
  ·cases h; cases hv; exact .nilIface
  ·cases h; cases hv; exact .ptrN
  ·split at h
   ·rename_i c hc
    cases h; cases hv with
    | ptr hb => exact .ptr (by rw [hτ _ _ hc]; exact hb)
   ·cases h
  ·cases h; cases hv; exact .sliceN _ _
  ·split at h
   ·rename_i c hc
    cases h; cases hv with
    | slice hb hcap => exact .slice (by rw [hτ _ _ hc]; exact hb) hcap
   ·cases h
  ·cases h; cases hv; exact .mapN
  ·split at h
   ·rename_i c hc
    cases h; cases hv with
    | map hb => exact .map (by rw [hτ _ _ hc]; exact hb)
   ·cases h
  ·split at h
   ·rename_i x y h1 h2
    cases h; cases hv with
    | func p q =>
     have a1 := zc1 (fun v v2 v' a b => zcz hτ d a b) h1 p;have a2 := zc1 (fun v v2 v' a b => zcz hτ d a b) h2 q;exact .func a1 a2
   ·cases h
  ·split at h
   ·rename_i y h1
    cases h; cases hv with
    | iface p => exact .iface (zcz hτ d h1 p)
   ·cases h
  ·split at h
   ·rename_i x h1
    cases h; cases hv with
    | agg p => exact .agg (zc1 (fun v v2 v' a b => zcz hτ d a b) h1 p)
   ·cases h
  ·split at h
   ·rename_i x h1
    cases h; cases hv with
    | tuple p => exact .tuple (zc1 (fun v v2 v' a b => zcz hτ d a b) h1 p)
   ·cases h
  ·cases h
end
theorem zc0 {f g : Value → Option Value} (h : ∀ v v2, f v = some v2 → g v = some v2) : ∀ {l l2 : List Value}, renL f l = some l2 → renL g l = some l2
 | [], l2, hl => hl
 | v :: r, l2, hl => by
  simp only [renL] at hl ⊢;split at hl
  ·rename_i a b h1 h2;rw [h _ _ h1, zc0 h h2]; exact hl
  ·cases hl
theorem zjc {τ σ : Nat → Option Nat} (h : ∀ b c, τ b = some c → σ b = some c) : ∀ (d : Nat) {v v2 : Value}, renV τ d v = some v2 → renV σ d v = some v2
 | 0, v, v2, hv => by simp [renV] at hv
 | d + 1, v, v2, hv => by
  have ih := fun v v2 => zjc h d (v := v) (v2 := v2)
  unfold renV at hv ⊢;split at hv
  ·exact hv
  ·exact hv
  ·exact hv
  ·exact hv
  ·exact hv
  ·exact hv
  ·split at hv
   ·rename_i c hc; simp only [h _ _ hc]; exact hv
   ·cases hv
  ·exact hv
  ·split at hv
   ·rename_i c hc; simp only [h _ _ hc]; exact hv
   ·cases hv
  ·exact hv
  ·split at hv
   ·rename_i c hc; simp only [h _ _ hc]; exact hv
   ·cases hv
  ·split at hv
   ·rename_i x y h1 h2;simp only [zc0 ih h1, zc0 ih h2]; exact hv
   ·cases hv
  ·split at hv
   ·rename_i y h1; simp only [ih _ _ h1]; exact hv
   ·cases hv
  ·split at hv
   ·rename_i y h1; simp only [zc0 ih h1]; exact hv
   ·cases hv
  ·split at hv
   ·rename_i y h1; simp only [zc0 ih h1]; exact hv
   ·cases hv
  ·cases hv
structure Emb (τ : Nat → Option Nat) (H0 H : AHeap) : Prop where
 dom : ∀ b c, τ b = some c → b % 2 = 1 ∨ b < H0.fresh
 inj : ∀ b b' c, τ b = some c → τ b' = some c → b % 2 = 0 → b = b'
 blk : ∀ b x, H0.get b = some x → ∃ c cs cs' z s r0 ro, τ b = some c ∧ x = .cells cs z s r0 ∧ H.get c = some (.cells cs' z s ro) ∧ renL (renV τ 8) cs = some cs' ∧ (b % 2 = 0 → ro = false) ∧ r0 = decide (b % 2 = 1) ∧ (r0 = true → s = false)
 glob : ∀ g, g < 1000 → τ (2 * g + 1) = some (2 * g + 1)
def tauN (τ : Nat → Option Nat) (H0 H : AHeap) (b : Nat) : Option Nat := if b % 2 = 1 then τ b else if H0.fresh ≤ b then some (b - H0.fresh + H.fresh) else τ b
def renBs (f : Nat → Option Nat) : List ABlk → Option (List ABlk)
 | [] => some []
 | x :: r => match renB f x, renBs f r with
  | some y, some l => some (y :: l)
  | _, _ => none
theorem zje {f : Nat → Option Nat} : ∀ {l l2 : List ABlk}, renBs f l = some l2 → l2.length = l.length ∧ ∀ (k : Nat) y, l2[k]? = some y → ∃ x, l[k]? = some x ∧ renB f x = some y
 | [], l2, h => by cases h; exact ⟨rfl, fun k y h => by simp at h⟩
 | x :: r, l2, h => by
  simp only [renBs] at h;split at h
  ·rename_i y l h1 h2;cases h;obtain ⟨i1, i2⟩ := zje h2;refine ⟨by simp [i1], fun k z hz => ?_⟩
   cases k with
   | zero => simp at hz; subst hz; exact ⟨x, rfl, h1⟩
   | succ k => simpa using i2 k z (by simpa using hz)
  ·cases h
theorem zlW : ∀ (ys : List ABlk) (h : AHeap) (k : Nat) (y : ABlk), ys[k]? = some y → (addL h ys).get (h.fresh + 2 * k) = some y
 | [], h, k, y, hy => by simp at hy
 | x :: r, h, k, y, hy => by
  simp only [addL]
  cases k with
  | zero =>
   simp at hy; subst hy;have hk := (zdb r (h.add x)).2.1;have hlow := (zdb r (h.add x)).2.2.1
   have keep : ∀ (r : List ABlk) (g : AHeap) (b : Nat), b < g.fresh → (addL g r).get b = g.get b := by
    intro r
    induction r with
    | nil => intro g b _; rfl
    | cons z r ih =>
     intro g b hb;simp only [addL];rw [ih _ _ (by rw [zbd]; omega), AHeap.get_add, if_neg (by omega)]
   rw [keep _ _ _ (by rw [zbd]; omega), AHeap.get_add, if_pos (by omega)]
  | succ k =>
   have := zlW r (h.add x) k y (by simpa using hy);rw [zbd] at this;rw [← this]; congr 1; omega
theorem zkd {P : Program} {f : FuncId} {args0 args : List Value} {H0 H : AHeap} {τ : Nat → Option Nat} {v0 v : Value} {ys zs : List ABlk} (h : Ret P f args0 H0 v0 (addL H0 ys)) (hE : Emb τ H0 H)
  (ha : renL (renV τ 8) args0 = some args) (hv : renV (tauN τ H0 H) 8 v0 = some v) (hz : renBs (tauN τ H0 H) ys = some zs) (htau : ∀ b c, τ b = some c → tauN τ H0 H b = some c) : Ret P f args H v (addL H zs) := by
 refine ⟨h.enters, fun Γ w args' hr hg hA => ?_⟩
 let Γ0 : Ga := fun b => (τ b).bind Γ
 have hτ : ∀ b c, τ b = some c → Γ0 b = Γ c := fun b c hb => by show (τ b).bind Γ = _; rw [hb]; rfl
 have isown : ∀ b x, H0.get b = some x → x.isOwn = true → b % 2 = 0 := by
  intro b x hb ho;obtain ⟨c, cs, cs', z, s, r0, ro, h1, h2, h3, h4, h5, h6, h7⟩ := hE.blk b x hb;rw [h2] at ho;simp only [ABlk.isOwn, h6, Bool.not_eq_true', decide_eq_false_iff_not] at ho;omega
 -- the real place of an own block of the small heap
 have image : ∀ b x i, H0.get b = some x → b % 2 = 0 → Γ0 b = some i → ∃ c y, τ b = some c ∧ H.get c = some y ∧ y.isOwn = true ∧ Γ c = some i := by
  intro b x i hb hb2 hi;obtain ⟨c, cs, cs', z, s, r0, ro, h1, h2, h3, h4, h5, h6, h7⟩ := hE.blk b x hb;refine ⟨c, _, h1, h3, ?_, by rw [← hτ b c h1]; exact hi⟩;simp [ABlk.isOwn, h5 hb2]
 have hr0 : Rel Γ0 H0 w := by
  refine ⟨fun b i hb => ?_, fun b x hb => ?_, fun b x hb ho => ?_, fun b b' x x' i i' hb hb' hi hi' hown hne => ?_⟩
  ·cases hc : τ b with
   | none => have : (τ b).bind Γ = some i := hb; rw [hc] at this; cases this
   | some c => exact hE.dom b c hc
  ·obtain ⟨c, cs, cs', z, s, r0, ro, h1, h2, h3, h4, h5, h6, h7⟩ := hE.blk b x hb;obtain ⟨i, o, k1, k2, k3⟩ := hr.blk c _ h3;refine ⟨i, o, by rw [hτ b c h1]; exact k1, k2, ?_⟩;rw [h2];obtain ⟨rc, e, fz, q1, q2, q3, q4, q5, q6, q7, q8, q9⟩ := k3;have hlen : cs'.length = cs.length := zgD h4;refine ⟨rc, e, fz, q1, by rw [q2, hlen], q3, q4, by rw [← hlen]; exact q5, q6, fun hro => ?_, fun hs => ?_, fun k u hk => ?_⟩
   ·refine q7 (h5 ?_);rw [h6] at hro; simp at hro; omega
   ·cases r0 with
    | false => rfl
    | true => rw [h7 rfl] at hs; cases hs
   ·have hlt : k < cs'.length := by rw [hlen]; exact (List.getElem?_eq_some_iff.1 hk).1
    obtain ⟨u2, e1, e2⟩ := zk4 h4 (k := k) (v2 := cs'[k]) (by simp [hlt]);rw [hk] at e1; cases e1;obtain ⟨u', g1, g2⟩ := q9 k cs'[k] (by simp [hlt]);exact ⟨u', g1, zcz hτ 8 e2 g2⟩
  ·obtain ⟨c, cs, cs', z, s, r0, ro, h1, h2, h3, h4, h5, h6, h7⟩ := hE.blk b x hb;rw [zao] at ho;rw [h2]; simp [ABlk.isOwn, h6, ho]
  ·have hb2 := isown b x hb hown;obtain ⟨c, y, e1, e2, e3, e4⟩ := image b x i hb hb2 hi;obtain ⟨c', cs, cs', z, s, r0, ro, h1, h2, h3, _⟩ := hE.blk b' x' hb';have hi2 : Γ c' = some i' := by rw [← hτ b' c' h1]; exact hi'
   refine hr.sep c c' y _ i i' e2 h3 e4 hi2 e3 ?_;intro e; subst e;exact hne (hE.inj b b' c e1 h1 hb2)
 have hg0 : Glob Γ0 := fun g hgl => by
  obtain ⟨i, h1, h2, h3⟩ := hg g hgl;exact ⟨i, by rw [hτ _ _ (hE.glob g hgl)]; exact h1, h2, h3⟩
 have hA0 : All2 (VR Γ0) args0 args' := zc1 (fun v v2 v' a b => zcz hτ 8 a b) ha hA;refine (h.calls Γ0 w args' hr0 hg0 hA0).mono ?_
 rintro e w' ⟨v', u, H0', Γ1, rfl, ⟨rfl, rfl⟩, k1, k2, k3⟩
 have hev := zao.1 (zby H);have hev0 := zao.1 (zby H0)
 let G : Ga := fun b => if b % 2 = 0 ∧ H.fresh ≤ b then Γ1 (b - H.fresh + H0.fresh) else Γ b
 have Gold : ∀ b, b % 2 = 1 ∨ b < H.fresh → G b = Γ b := by
  intro b hb;show (if _ then _ else _) = _;rw [if_neg (by rintro ⟨e, l⟩; omega)]
 have hle : Ga.le Γ G := fun b i hb => by rw [Gold b (hr.dom b i hb)]; exact hb
 have hτ' : ∀ b c i, tauN τ H0 H b = some c → Γ1 b = some i → G c = some i := by
  intro b c i hb hi;by_cases ho : b % 2 = 1 ∨ b < H0.fresh
  ·have hc : τ b = some c := by
    unfold tauN at hb;split at hb
    ·exact hb
    ·rename_i hp;rw [if_neg (by omega)] at hb; exact hb
   rw [k2.ext b ho] at hi;have hi' : Γ c = some i := by rw [← hτ b c hc]; exact hi
   rw [Gold c (hr.dom c i hi')]; exact hi'
  ·unfold tauN at hb;rw [if_neg (by omega), if_pos (by omega)] at hb;cases hb;show (if _ then _ else _) = _;rw [if_pos (by omega)];have : b - H0.fresh + H.fresh - H.fresh + H0.fresh = b := by omega
   rw [this]; exact hi
 obtain ⟨zlen, zget⟩ := zje hz;obtain ⟨s1, s2, s3, s4⟩ := zdb zs H;obtain ⟨t1, t2, t3, t4⟩ := zdb ys H0
 have keep0 : ∀ b x, H0.get b = some x → (addL H0 ys).get b = some x := by
  intro b x hb;have hd := hr0.closed.lt hb
  have keepG : ∀ (r : List ABlk) (g : AHeap) (b : Nat), (b % 2 = 1 ∨ b < g.fresh) → (addL g r).get b = g.get b := by
   intro r
   induction r with
   | nil => intro g b _; rfl
   | cons z r ih =>
    intro g b hb;have hgf := zao.1 (zby g);simp only [addL];rw [ih _ _ (by rw [zbd]; omega), AHeap.get_add, if_neg (by omega)]
  rw [keepG _ _ _ hd]; exact hb
 have src : ∀ b y, (addL H zs).get b = some y → ((b % 2 = 1 ∨ b < H.fresh) ∧ H.get b = some y) ∨ ∃ k x, b = H.fresh + 2 * k ∧ zs[k]? = some y ∧ ys[k]? = some x ∧ (addL H0 ys).get (H0.fresh + 2 * k) = some x ∧ renB (tauN τ H0 H) x = some y := by
  intro b y hb;rcases s4 b y hb with ⟨h5, _⟩ | ⟨k, h5, h6⟩
  ·exact .inl ⟨hr.closed.lt h5, h5⟩
  ·obtain ⟨x, x1, x2⟩ := zget k y h5;exact .inr ⟨k, x, h6, h5, x1, zlW ys H0 k x x1, x2⟩
 have Gnew : ∀ k, G (H.fresh + 2 * k) = Γ1 (H0.fresh + 2 * k) := by
  intro k;show (if _ then _ else _) = _;rw [if_pos (by omega)]
  congr 1; omega
 have hreal : ∀ c x j, H.get c = some x → Γ c = some j → j.real < w.heap.size := fun c x j hc hj => by
  obtain ⟨j', o, q1, q2, _⟩ := hr.blk c x hc;rw [hj] at q1; cases q1;exact (Array.getElem?_eq_some_iff.1 q2).1
 have mineIm : ∀ r, Mine Γ0 H0 r → Mine Γ H r := by
  rintro r ⟨b, x, i, hb, hown, hi, rfl⟩
  obtain ⟨c, y, e1, e2, e3, e4⟩ := image b x i hb (isown b x hb hown) hi;exact ⟨c, y, i, e2, e3, e4, rfl⟩
 -- an old block's object behind the call
 have oldobj : ∀ b y, H.get b = some y → ∃ i o, Γ b = some i ∧ w'.heap[i.real]? = some o ∧ ObjR G i y o := by
  intro b y hb;obtain ⟨i, o, q1, q2, q3⟩ := hr.blk b y hb;by_cases hm : Mine Γ0 H0 i.real
  ·obtain ⟨b0, x, j, m1, m2, m3, m4⟩ := hm;have hb2 := isown b0 x m1 m2;obtain ⟨c, y', e1, e2, e3, e4⟩ := image b0 x j m1 hb2 m3
   have hcb : c = b := by
    by_cases e : c = b
    ·exact e
    ·exact absurd m4 (hr.sep c b y' y j i e2 hb e4 q1 e3 e)
   subst hcb;rw [e4] at q1; cases q1;rw [hb] at e2; cases e2;obtain ⟨i2, o2, p1, p2, p3⟩ := k1.blk b0 x (keep0 b0 x m1);have : Γ1 b0 = some i := by rw [k2.ext b0 (hr0.closed.lt m1)]; exact m3
   rw [this] at p1; cases p1;obtain ⟨c2, cs, cs', z, s, r0, ro, h1, h2, h3, h4, h5, h6, h7⟩ := hE.blk b0 x m1;rw [e1] at h1; cases h1;rw [hb] at h3; cases h3;refine ⟨i, o2, e4, p2, ?_⟩;subst h2;have hro := h5 hb2;have hr00 : r0 = false := by rw [h6]; simp; omega
   subst hr00; subst hro;refine zc2 hτ' ?_ p3;simp only [renB]
   have hren : renL (renV (tauN τ H0 H) 8) cs = some cs' := by
    have mono : ∀ (d : Nat) {v v2 : Value}, renV τ d v = some v2 → renV (tauN τ H0 H) d v = some v2 := zjc htau;exact zc0 (fun v v2 h => mono 8 h) h4
   rw [hren]
  ·have hk := k2.keep i.real (Array.getElem?_eq_some_iff.1 q2).1 hm;exact ⟨i, o, q1, by rw [hk]; exact q2, q3.mono hle⟩
 have newreal : ∀ k x i, (addL H0 ys).get (H0.fresh + 2 * k) = some x → Γ1 (H0.fresh + 2 * k) = some i → w.heap.size ≤ i.real ∨ False := by
  intro k x i hx hi;have hown : x.isOwn = true := k1.ownd _ x hx (by rw [zao]; omega);left;rcases k2.mine i.real ⟨_, x, i, hx, hown, hi, rfl⟩ with h | ⟨b, y, j, hb, ho, hj, hjr⟩
  ·exact h
  ·have hb1 : (addL H0 ys).get b = some y := keep0 b y hb;have hj1 : Γ1 b = some j := by rw [k2.ext b (hr0.closed.lt hb)]; exact hj
   have hlt := hr0.closed.lt hb;exact absurd hjr (k1.sep b (H0.fresh + 2 * k) y x j i hb1 hx hj1 hi ho (by omega))
 refine ⟨v', v, addL H zs, G, rfl, ⟨rfl, rfl⟩, ⟨?_, ?_, ?_, ?_⟩, ⟨fun b hb => Gold b hb, by rw [s1]; omega, k2.size, fun r hrl hm => k2.keep r hrl (fun h => hm (mineIm r h)), ?_, k2.os, k2.tape, k2.output, s2⟩, zcZ hτ' 8 hv k3⟩
 ·intro b i hb;by_cases hc : b % 2 = 0 ∧ H.fresh ≤ b
  ·right;have h' : (if b % 2 = 0 ∧ H.fresh ≤ b then Γ1 (b - H.fresh + H0.fresh) else Γ b) = some i := hb;rw [if_pos hc] at h';have := k1.dom _ i h';rw [t1] at this;rw [s1, zlen]; omega
  ·have : b % 2 = 1 ∨ b < H.fresh := by omega
   exact this.imp id (by rw [s1]; omega)
 ·intro b y hb;rcases src b y hb with ⟨hd, g1⟩ | ⟨k, x, e, g1, g2, g3, g4⟩
  ·obtain ⟨i, o, q1, q2, q3⟩ := oldobj b y g1;exact ⟨i, o, hle _ _ q1, q2, q3⟩
  ·obtain ⟨i, o, q1, q2, q3⟩ := k1.blk _ x g3;exact ⟨i, o, by rw [e, Gnew]; exact q1, q2, zc2 hτ' g4 q3⟩
 ·intro b y hb ho;rcases src b y hb with ⟨hd, g1⟩ | ⟨k, x, e, g1, g2, g3, g4⟩
  ·exact hr.ownd b y g1 ho
  ·rw [zcK g4]; exact k1.ownd _ x g3 (by rw [zao]; omega)
 ·intro b b' y y' i i' hb hb' hi hi' hown hne;rcases src b y hb with ⟨hd, g1⟩ | ⟨k, x, e, g1, g2, g3, g4⟩ <;> rcases src b' y' hb' with ⟨hd', g1'⟩ | ⟨k', x', e', g1', g2', g3', g4'⟩
  ·exact hr.sep b b' y y' i i' g1 g1' (by rw [← Gold b hd]; exact hi) (by rw [← Gold b' hd']; exact hi') hown hne
  ·have := hreal b y i g1 (by rw [← Gold b hd]; exact hi);have := (newreal k' x' i' g3' (by rw [← Gnew, ← e']; exact hi')).resolve_right id;omega
  ·have := hreal b' y' i' g1' (by rw [← Gold b' hd']; exact hi');have := (newreal k x i g3 (by rw [← Gnew, ← e]; exact hi)).resolve_right id;omega
  ·refine k1.sep _ _ x x' i i' g3 g3' (by rw [← Gnew, ← e]; exact hi) (by rw [← Gnew, ← e']; exact hi') (by rw [← zcK g4]; exact hown) ?_;intro hk;exact hne (by omega)
 ·rintro r ⟨b, y, i, hb, hown, hi, rfl⟩
  rcases src b y hb with ⟨hd, g1⟩ | ⟨k, x, e, g1, g2, g3, g4⟩
  ·exact .inr ⟨b, y, i, g1, hown, by rw [← Gold b hd]; exact hi, rfl⟩
  ·exact .inl ((newreal k x i g3 (by rw [← Gnew, ← e]; exact hi)).resolve_right id)
def smallH (B : Nat → Option BB) (L : List ABlk) : AHeap := ⟨Tr.ofList L, (heapOf B).base, L.length, 0⟩
def tauS (ids : List Nat) (b : Nat) : Option Nat := if b % 2 = 1 then (if b / 2 < 1000 then some b else none) else ids[b / 2]?
structure Lies (H : AHeap) (ids : List Nat) (L : List ABlk) : Prop where
 len : ids.length = L.length
 even : ∀ i ∈ ids, i % 2 = 0
 nodup : ids.Nodup
 blk : ∀ (k : Nat) x, L[k]? = some x → ∃ c cs cs' z s, ids[k]? = some c ∧ x = .cells cs z s false ∧ H.get c = some (.cells cs' z s false) ∧ renL (renV (tauS ids) 8) cs = some cs'
theorem zg8 {B : Nat → Option BB} {L : List ABlk} {ids : List Nat} {H : AHeap} (hB : ∀ k x, B k = some x → k < 1000 ∧ x.cs.all flatC = true) (hG : Glo B H) (hL : Lies H ids L) : Emb (tauS ids) (smallH B L) H := by
 refine ⟨fun b c hb => ?_, fun b b' c hb hb' he => ?_, fun b x hb => ?_, fun g hg => ?_⟩
 ·unfold tauS at hb;split at hb
  ·exact .inl (by assumption)
  ·right;have hlt := (List.getElem?_eq_some_iff.1 hb).1;show b < 2 * L.length;rw [← hL.len]; omega
 ·unfold tauS at hb hb';rw [if_neg (by omega)] at hb;split at hb'
  ·rename_i ho;split at hb'
   ·cases hb';have := hL.even _ (List.mem_of_getElem? hb);omega
   ·cases hb'
  ·have h1 := (List.getElem?_eq_some_iff.1 hb)
   have h2 := (List.getElem?_eq_some_iff.1 hb')
   obtain ⟨l1, e1⟩ := h1;obtain ⟨l2, e2⟩ := h2
   have : b / 2 = b' / 2 := by
    by_cases hlt : b / 2 < b' / 2
    ·exact absurd (e1.trans e2.symm) ((List.pairwise_iff_getElem.1 hL.nodup) _ _ l1 l2 hlt)
    ·by_cases hgt : b' / 2 < b / 2
     ·exact absurd (e2.trans e1.symm) ((List.pairwise_iff_getElem.1 hL.nodup) _ _ l2 l1 hgt)
     ·omega
   omega
 ·rcases Nat.mod_two_eq_zero_or_one b with hp | hp
  ·rw [AHeap.get_even _ hp] at hb;have hb' : (Tr.ofList L).get (b / 2) = some x := hb;rw [Tr.zcs] at hb';obtain ⟨c, cs, cs', z, s, h1, h2, h3, h4⟩ := hL.blk _ x hb';refine ⟨c, cs, cs', z, s, false, false, ?_, h2, h3, h4, fun _ => rfl, by simp [hp], fun h => by cases h⟩;unfold tauS; rw [if_neg (by omega)]; exact h1
  ·rw [AHeap.get_odd _ hp] at hb;have hb' : (B (b / 2)).map (fun x => ABlk.cells x.cs x.i.esz false true) = some x := hb
   cases hx : B (b / 2) with
   | none => rw [hx] at hb'; cases hb'
   | some y =>
    rw [hx] at hb';simp only [Option.map_some, Option.some.injEq] at hb';subst hb';obtain ⟨hk, hf⟩ := hB _ y hx;refine ⟨b, y.cs, y.cs, y.i.esz, false, true, true, ?_, rfl, ?_, ?_, fun h => by omega, by simp [hp], fun _ => rfl⟩
    ·unfold tauS; rw [if_pos hp, if_pos hk]
    ·rw [AHeap.get_odd _ hp]; exact hG _ _ hx
    ·refine zeF (p := flatC) (fun v hv => ?_) hf;cases v <;> simp [flatC] at hv <;> rfl
 ·unfold tauS;rw [if_pos (by omega), if_pos (by omega)]
end Go.Den
end
noncomputable section
namespace Go.Den
structure Memo where
 f : FuncId
 args : List Value
 blks : List ABlk
 v : Value
 ys : List ABlk
abbrev BL := List (Nat × List Value)
def bOf : BL → Nat → Option BB
 | [], _ => none
 | (g, cs) :: r, k => match Nat.beq g k with
  | true => some (laidBB g cs)
  | false => bOf r k
def blOk (b : BL) : Bool := b.all fun x => Nat.blt x.1 1000 && x.2.all flatC
theorem zh5 : ∀ {b : BL}, blOk b = true → ∀ k x, bOf b k = some x → k < 1000 ∧ x.cs.all flatC = true
 | [], _, k, x, h => by cases h
 | (g, cs) :: r, hb, k, x, h => by
  simp only [blOk, List.all_cons, Bool.and_eq_true] at hb;simp only [bOf] at h;split at h
  ·rename_i e;cases h;have hg := hb.1.1;rw [Nat.blt_eq] at hg;exact ⟨by rw [← Nat.eq_of_beq_eq_true e]; exact hg, hb.1.2⟩
  ·exact zh5 (b := r) (by simpa [blOk] using hb.2) k x h
def chkB (b : BL) (h : AHeap) : Bool := b.all fun x => match h.base x.1 with
 | some (.cells cs z s ro) => eqLs (beqV 8) cs x.2 && Nat.beq z 0 && !s && ro
 | _ => false
theorem zqW {b : BL} {h : AHeap} (hc : chkB b h = true) : Glo (bOf b) h := by
 intro k x hx
 have key : ∀ (b : BL), chkB b h = true → bOf b k = some x → h.base k = some (.cells x.cs x.i.esz false true) := by
  intro b
  induction b with
  | nil => intro _ hb; cases hb
  | cons p r ih =>
   obtain ⟨g, cs⟩ := p;intro hc hb;simp only [chkB, List.all_cons, Bool.and_eq_true] at hc;simp only [bOf] at hb;split at hb
   ·rename_i e;cases hb;have e := Nat.eq_of_beq_eq_true e;subst e;have h1 := hc.1;split at h1
    ·rename_i cs' z s ro he;simp only [Bool.and_eq_true, Bool.not_eq_true'] at h1;rw [he, zdQ (fun a b => zdY 8) h1.1.1.1, Nat.eq_of_beq_eq_true h1.1.1.2, h1.1.2, h1.2]; rfl
    ·cases h1
   ·exact ih (by simpa [chkB] using hc.2) hb
 exact key b hc hx
def idsL (l : List Value) : List Nat := l.foldr (idsV 8) []
def look2 : List (Nat × Nat) → Nat → Option Nat
 | [], _ => none
 | (a, b) :: r, k => match Nat.beq a k with
  | true => some b
  | false => look2 r k
def guess (s : Nat → Option ABlk) (h : AHeap) : Nat → List (Nat × Nat) → List (Nat × Nat) → List (Nat × Nat)
 | 0, _, acc => acc
 | _ + 1, [], acc => acc
 | n + 1, (a, b) :: r, acc => match look2 acc a with
  | some _ => guess s h n r acc
  | none => guess s h n ((idsB (s a) []).zip (idsB (h.get b) []) ++ r) ((a, b) :: acc)
def idsOf (m : Memo) (args : List Value) (h : AHeap) : List Nat :=
 let p := guess (fun b => if b % 2 = 0 then m.blks[b / 2]? else none) h 1000 ((idsL m.args).zip (idsL args)) []
 (List.range m.blks.length).map fun k => (look2 p (2 * k)).getD 0
def nodupB : List Nat → Bool
 | [] => true
 | a :: r => r.all (fun b => !Nat.beq a b) && nodupB r
theorem zjq : ∀ {l : List Nat}, nodupB l = true → l.Nodup
 | [], _ => .nil
 | a :: r, h => by
  simp only [nodupB, Bool.and_eq_true, List.all_eq_true] at h;refine List.nodup_cons.2 ⟨fun hm => ?_, zjq h.2⟩;have := h.1 a hm;simp at this
def liesB (h : AHeap) (ids : List Nat) : List Nat → List ABlk → Bool
 | [], [] => true
 | c :: cs, x :: xs => (match x, h.get c with
  | .cells l z s false, some (.cells l' z' s' false) => (match renL (renV (tauS ids) 8) l with
   | some l2 => eqLs (beqV 8) l2 l' && Nat.beq z z' && (s == s')
   | none => false)
  | _, _ => false) && liesB h ids cs xs
 | _, _ => false
theorem zlo {h : AHeap} {ids : List Nat} : ∀ {cs : List Nat} {xs : List ABlk}, liesB h ids cs xs = true → cs.length = xs.length ∧ ∀ (k : Nat) x, xs[k]? = some x → ∃ c l l' z s, cs[k]? = some c ∧ x = .cells l z s false ∧ h.get c = some (.cells l' z s false) ∧ renL (renV (tauS ids) 8) l = some l'
 | [], [], _ => ⟨rfl, fun k x hx => by simp at hx⟩
 | [], _ :: _, hl => by cases hl
 | _ :: _, [], hl => by cases hl
 | c :: cs, x :: xs, hl => by
  simp only [liesB, Bool.and_eq_true] at hl;obtain ⟨i1, i2⟩ := zlo hl.2;refine ⟨by simp [i1], fun k y hy => ?_⟩
  cases k with
  | zero =>
   simp only [List.getElem?_cons_zero, Option.some.injEq] at hy;subst hy;have h1 := hl.1;split at h1
   ·rename_i l z s l' z' s' hg;split at h1
    ·rename_i l2 hr;simp only [Bool.and_eq_true, beq_iff_eq] at h1;have e1 := zdQ (fun a b => zdY 8) h1.1.1;have e2 := Nat.eq_of_beq_eq_true h1.1.2;subst e1; subst e2;refine ⟨c, l, l2, z, s, rfl, rfl, ?_, hr⟩;rw [hg, h1.2]
    ·cases h1
   ·cases h1
  | succ k => simpa using i2 k y (by simpa using hy)
def tryMemo (b : BL) (m : Memo) (args : List Value) (h : AHeap) : Option (Value × AHeap) :=
 let ids := idsOf m args h
 match renL (renV (tauS ids) 8) m.args with
 | some a => match eqLs (beqV 8) a args && ids.all (fun i => Nat.beq (i % 2) 0) && nodupB ids && liesB h ids ids m.blks && chkB b h with
  | true => match renV (tauN (tauS ids) (smallH (bOf b) m.blks) h) 8 m.v, renBs (tauN (tauS ids) (smallH (bOf b) m.blks) h) m.ys with
   | some v, some zs => some (v, addL h zs)
   | _, _ => none
  | false => none
 | none => none
theorem zmy {P : Program} {b : BL} (hb : blOk b = true) {m : Memo} (hm : Ret P m.f m.args (smallH (bOf b) m.blks) m.v (addL (smallH (bOf b) m.blks) m.ys)) {args : List Value} {h : AHeap} {r : Value × AHeap} (hr : tryMemo b m args h = some r) : Ret P m.f args h r.1 r.2 := by
 unfold tryMemo at hr;simp only at hr;generalize idsOf m args h = ids at hr
 split at hr
 ·rename_i a ha;split at hr
  ·rename_i hc;simp only [Bool.and_eq_true] at hc;obtain ⟨⟨⟨⟨c1, c2⟩, c3⟩, c4⟩, c5⟩ := hc;have e := zdQ (fun a b => zdY 8) c1;subst e;split at hr
   ·rename_i v zs h1 h2;cases hr;obtain ⟨l1, l2⟩ := zlo c4;have hL : Lies h ids m.blks := ⟨l1, fun i hi => by rw [List.all_eq_true] at c2; exact Nat.eq_of_beq_eq_true (c2 i hi), zjq c3, l2⟩
    refine zkd hm (zg8 (zh5 hb) (zqW c5) hL) ha h1 h2 fun x c hx => ?_
    unfold tauN;split
    ·exact hx
    ·split
     ·rename_i hp hlt;unfold tauS at hx;rw [if_neg hp] at hx;have := (List.getElem?_eq_some_iff.1 hx).1;rw [l1] at this;have hf : (smallH (bOf b) m.blks).fresh = 2 * m.blks.length := rfl;omega
     ·exact hx
   ·cases hr
  ·cases hr
 ·cases hr
def findMemo (b : BL) (f : FuncId) (args : List Value) (h : AHeap) : List Memo → Option (Value × AHeap)
 | [] => none
 | m :: r => match Nat.beq m.f f with
  | true => match tryMemo b m args h with
   | some x => some x
   | none => findMemo b f args h r
  | false => findMemo b f args h r
def withMemo (b : BL) (T : List Memo) (R : Rec) : Rec := { code := R.code, loop := R.loop, call := fun f args h => match findMemo b f args h T with
 | some x => some [x]
 | none => R.call f args h }
def iterM (P : Program) (C : Ctx) (b : BL) (T : List Memo) : Nat → Rec
 | 0 => { code := fun _ _ _ _ => none, loop := fun _ _ _ _ => none, call := fun _ _ _ => none }
 | n + 1 => withMemo b T (step P C (iterM P C b T n))
def MemoOk (P : Program) (b : BL) (T : List Memo) : Prop := ∀ m ∈ T, Ret P m.f m.args (smallH (bOf b) m.blks) m.v (addL (smallH (bOf b) m.blks) m.ys)
theorem zel {P : Program} {b : BL} (hb : blOk b = true) {f : FuncId} {args : List Value} {h : AHeap} : ∀ {T : List Memo}, MemoOk P b T → ∀ {r : Value × AHeap}, findMemo b f args h T = some r → Ret P f args h r.1 r.2
 | [], _, r, hr => by cases hr
 | m :: T, hT, r, hr => by
  simp only [findMemo] at hr;split at hr
  ·rename_i e;have e := Nat.eq_of_beq_eq_true e;split at hr
   ·rename_i x hx;cases hr;have := zmy hb (hT m (by simp)) hx;rw [e] at this; exact this
   ·exact zel hb (fun m hm => hT m (by simp [hm])) hr
  ·exact zel hb (fun m hm => hT m (by simp [hm])) hr
theorem zjZ {P : Program} {b : BL} (hb : blOk b = true) {T : List Memo} (hT : MemoOk P b T) {R : Rec} (hR : RecOk P R) : RecOk P (withMemo b T R) := by
 refine ⟨fun h => hR.code h, fun h => hR.loop h, fun {f args H outs} h => ?_⟩;have h' : (match findMemo b f args H T with | some x => some [x] | none => R.call f args H) = some outs := h;split at h'
 ·rename_i x hx;cases h';exact (zel hb hT hx).mono fun v k hk => by obtain ⟨e1, e2⟩ := hk; subst e1; subst e2; exact List.mem_singleton.2 rfl
 ·exact hR.call h'
theorem ziA {P : Program} {C : Ctx} {b : BL} (hb : blOk b = true) {T : List Memo} (hT : MemoOk P b T) (hC : CtxOk P C) : ∀ n, RecOk P (iterM P C b T n)
 | 0 => ⟨fun h => by simp [iterM] at h, fun h => by simp [iterM] at h, fun h => by simp [iterM] at h⟩
 | n + 1 => zjZ hb hT (zhy hC (ziA hb hT hC n))
def memoIs (P : Program) (C : Ctx) (b : BL) (T : List Memo) (n : Nat) (m : Memo) : Bool :=
 let H0 := smallH (bOf b) m.blks
 match (step P C (iterM P C b T n)).call m.f m.args { H0 with low := H0.fresh } with
 | some l => l.all fun y => match compact H0 y with
  | some x => beqV 8 x.1 m.v && eqLs beqB x.2 m.ys
  | none => false
 | none => false
theorem zaJ {P : Program} [PC P] {b : BL} (hb : blOk b = true) {T : List Memo} (hT : MemoOk P b T) {n : Nat} {m : Memo} (h : memoIs P (ctxOf P) b T n m = true) : Ret P m.f m.args (smallH (bOf b) m.blks) m.v (addL (smallH (bOf b) m.blks) m.ys) := by
 unfold memoIs at h;simp only at h;split at h
 ·rename_i l hl;rw [List.all_eq_true] at h;refine zh4 (((zhy PC.ok (ziA hb hT PC.ok n)).call hl).mono fun v1 H1 hm => ?_);have := h _ hm;split at this
  ·rename_i x hx;rw [Bool.and_eq_true] at this;have e1 := zdY 8 this.1;have e2 := zdQ (fun a b => zkL) this.2;obtain ⟨x1, x2⟩ := x;simp only at e1 e2;subst e1; subst e2;exact ⟨_, _, fun Γ Γ1 w w' v' hr h1 ha hv => ze6 hx hr h1 ha hv, rfl, rfl⟩
  ·cases this
 ·cases h
theorem zaI {P : Program} {b : BL} : MemoOk P b [] := fun m h => by cases h
theorem zaF {P : Program} {b : BL} {m : Memo} {T : List Memo} (h : Ret P m.f m.args (smallH (bOf b) m.blks) m.v (addL (smallH (bOf b) m.blks) m.ys)) (hT : MemoOk P b T) : MemoOk P b (m :: T) := fun x hx => by
 rcases List.mem_cons.1 hx with e | hx
 ·subst e; exact h
 ·exact hT x hx
end Go.Den
end
noncomputable section
namespace Go.Den
structure SlAt {α : Type} (H : AHeap) (w : Nat) (f : α → List Value) (p : Option Addr) (l : List α) : Prop where
 out : l ≠ [] → ∃ b o cs z s ro, p = some ⟨b, o, none⟩ ∧ H.get b = some (.cells cs z s ro) ∧ ∀ i (h : i < l.length), sliceIn cs (o + i * w) w = some (f l[i])
section
variable {α : Type} {H H' : AHeap} {w : Nat} {f : α → List Value} {p : Option Addr} {l : List α}
theorem SlAt.ext (h : SlAt H w f p l) (hE : Ext H H') : SlAt H' w f p l := ⟨fun hne => by
 obtain ⟨b, o, cs, z, s, ro, h1, h2, h3⟩ := h.out hne;exact ⟨b, o, cs, z, s, ro, h1, hE _ _ h2, h3⟩⟩
theorem SlAt.nil : SlAt H w f p ([] : List α) := ⟨fun h => absurd rfl h⟩
theorem SlAt.take (h : SlAt H w f p l) (n : Nat) : SlAt H w f p (l.take n) := ⟨fun hne => by
 obtain ⟨b, o, cs, z, s, ro, h1, h2, h3⟩ := h.out (fun e => hne (by rw [e]; simp));refine ⟨b, o, cs, z, s, ro, h1, h2, fun i hi => ?_⟩;rw [List.length_take] at hi;rw [h3 i (by omega)]; simp⟩
theorem zhz {cs : List Value} {o n : Nat} {x : List Value} (h : sliceIn cs o n = some x) {j : Nat} (hj : j < n) : cs[o + j]? = x[j]? := ((zb3 h).2 j hj).symm
theorem zon {cs : List Value} {o i : Nat} (hw : ∀ i (h : i < l.length), sliceIn cs (o + i * w) w = some (f l[i])) (h : i < l.length) : pt true w cs (o + i * w) = some (.agg ⟨f l[i]⟩) := by
 simp only [pt, hw i h]
theorem zgK {cs : List Value} {o i n : Nat} {g : α → Value} (hw : ∀ i (h : i < l.length), sliceIn cs (o + i * 1) 1 = some [g l[i]]) (h : i < l.length) : pt false n cs (o + i * 1) = some (g l[i]) := by
 have := zhz (hw i h) (j := 0) (by omega);simpa [pt] using this
theorem zhE {cs : List Value} {o i j n : Nat} {v : Value} (hw : ∀ i (h : i < l.length), sliceIn cs (o + i * w) w = some (f l[i])) (h : i < l.length) (hj : j < w) (hv : (f l[i])[j]? = some v) : pt false n cs (o + i * w + j) = some v := by
 simp only [pt];rw [zhz (hw i h) hj]; exact hv
theorem zaB {b : Nat} {z : Nat} {s ro : Bool} {g : α → Value} (h : H.get b = some (.cells (l.map g) z s ro)) : SlAt H 1 (fun x => [g x]) (some ⟨b, 0, none⟩) l := ⟨fun _ => ⟨b, 0, _, z, s, ro, rfl, h, fun i hi => by
 have : ((l.map g).drop (0 + i * 1)).take 1 = [g l[i]] := by
  rw [Nat.zero_add, Nat.mul_one, List.drop_eq_getElem_cons (by simpa using hi)];simp
 simp only [sliceIn, this]; rfl⟩⟩
theorem zbs {b : Nat} {z : Nat} {s ro : Bool} (hf : ∀ x, (f x).length = w) (h : H.get b = some (.cells (l.flatMap f) z s ro)) : SlAt H w f (some ⟨b, 0, none⟩) l := ⟨fun _ => ⟨b, 0, _, z, s, ro, rfl, h, fun i hi => by
 have := zop hf hi;simp only [pt] at this;split at this
 ·rename_i x hx; cases this; exact hx
 ·cases this⟩⟩
end
section
variable {P : Program} {l : EL} {h : AHeap}
theorem zb9 {t : TypeId} {x hi' : Operand} {p : Option Addr} {n c i m : Nat} {ag : Bool} {k : IntKind} (hx : ev l x = some (.slice p n c)) (hh : ev l hi' = some (.int k i)) (hs : selOf P t = some (m, ag)) (hp : p = none → n = 0 ∧ c = 0) (hsp : ∀ a, p = some a → a.spot = none) (hi : i ≤ c) :
  Does P l (.slice t x none (some hi') none) h (.slice p i c) h := by
 obtain ⟨ti, e, ei, h1, h2, h3, h4, h5⟩ := zbI hs;refine ziI (p := none) (q := some (.int k i)) (r := none) hx rfl (by simp only [evO, hh]) rfl ?_
 have hb : bounds3 n c none (some (.int k (i : Int))) none = some (0, i, c) := by
  simp only [bounds3, bound, Option.isSome_none, Bool.false_eq_true, if_false];rw [if_pos ⟨by omega, by omega⟩];simp
 cases p with
 | none =>
  obtain ⟨rfl, rfl⟩ := hp rfl;have : i = 0 := by omega
  subst this
  simp only [sliceA, h1, h2, h3, hb]
 | some a =>
  obtain ⟨b, o, sp⟩ := a;have := hsp _ rfl;simp only at this;subst this;simp only [sliceA, h1, h2, h3, hb];simp
end
section
variable {P : Program} {α : Type} [DecidableEq α] {f : α → Value} {kt : TypeId}
variable {l : EL} {h : AHeap}
end
section
variable {P : Program} {α : Type} {f : α → Value} {h : AHeap}
end
section
variable {P : Program} {rd : Option Nat} {nt : Nat} {ops : Array Oper} {l : EL} {ds : List Nat} {h : AHeap} {K : St → Prop} {i : Nat} {r : List Oper} {ty : TypeId} {pos : String} {af : Array Edge}
theorem zan {d : Option Nat} {op : Op} {j t : Nat} {w b : Bool} (_hd : gdst ops j = some t) (hl : lk l t = some (.bool b)) (h1 : b = true → SeqL P rd nt ops (⟨d, op, ty, pos, af, some (j, w)⟩ :: r) i ⟨ofA ((t, .bool true) :: l), ds, h⟩ K)
  (h2 : b = false → SeqL P rd nt ops (⟨d, op, ty, pos, af, some (j, w)⟩ :: r) i ⟨ofA ((t, .bool false) :: l), ds, h⟩ K) : SeqL P rd nt ops (⟨d, op, ty, pos, af, some (j, w)⟩ :: r) i ⟨ofA l, ds, h⟩ K :=
 znY hl (by simp) h1 h2
theorem zdC {H : AHeap} {lo : Nat} {L0 : List (Option ABlk)} {ow : List Nat} {N : List ABlk} {d : Option Nat} {op : Op} {j t : Nat} {w b : Bool} (_hd : gdst ops j = some t) (hl : lk l t = some (.bool b)) (h1 : b = true → SeqD P rd nt ops (⟨d, op, ty, pos, af, some (j, w)⟩ :: r) i ds ((t, .bool true) :: l) H lo L0 ow N K)
  (h2 : b = false → SeqD P rd nt ops (⟨d, op, ty, pos, af, some (j, w)⟩ :: r) i ds ((t, .bool false) :: l) H lo L0 ow N K) : SeqD P rd nt ops (⟨d, op, ty, pos, af, some (j, w)⟩ :: r) i ds l H lo L0 ow N K :=
 zid hl h1 h2
end
end Go.Den
end
noncomputable section
namespace Go.Den
section
variable {P : Program} {rd : Option Nat} {nt : Nat} {ops : Array Oper} {l : EL} {ds : List Nat} {K : St → Prop} {i : Nat} {r : List Oper} {o : Oper} {ty : TypeId} {pos : String} {af : Array Edge} {H : AHeap} {lo : Nat} {L : List (Option ABlk)}
 {Qn : St → Prop} {Qe : Nat → St → Prop} {Qr : St → Prop}
theorem zj7 [PC P] {op : Op} {v : Value} {k : Nat} {x : ABlk} (hc : Closed H) (hlt : k < L.length) (hop : Does P l op (ext H lo L) v ((ext H lo L).put (nb H k) x))
  (hk : SeqL P rd nt ops (o :: r) (i + 1) ⟨ofA l, ds, ext H lo (L.set k (some x))⟩ K) : SeqL P rd nt ops (⟨none, op, ty, pos, af, none⟩ :: o :: r) i ⟨ofA l, ds, ext H lo L⟩ K :=
 zhA hop (zcy zde (zem hc hlt x) (by simp) hk)
theorem zcJ [PC P] {op : Op} {v : Value} {k : Nat} {x : ABlk} {b : Code} (hc : Closed H) (hlt : k < L.length) (hop : Does P l op (ext H lo L) v ((ext H lo L).put (nb H k) x))
  (hk : CT P rd nt b ⟨ofA l, ds, ext H lo (L.set k (some x))⟩ Qn Qe Qr) : SeqL P rd nt ops [⟨none, op, ty, pos, af, none⟩] i ⟨ofA l, ds, ext H lo L⟩ (fun s' => CT P rd nt b s' Qn Qe Qr) :=
 zhA hop (zaf (zcH zde (zem hc hlt x) hk))
theorem zlz (hc : Closed H) {k : Nat} (hk : k < L.length) (x : ABlk) : HQ (((ext H lo L).kill (nb H k)).add x) (ext H lo (L.set k none ++ [some x])) := by
 have q := zqI (lo := lo) hc hk;rw [← za2];have hn := q.next;refine ⟨fun b => ?_, by simp only [AHeap.add, hn], by simp only [AHeap.add, q.low]⟩;have hg := q.get b;rcases Nat.mod_two_eq_zero_or_one b with h | h
 ·rw [AHeap.get_even _ h, AHeap.get_even _ h] at hg ⊢;simp only [AHeap.add, Tr.zaT, hn, hg]
 ·rw [AHeap.get_odd _ h, AHeap.get_odd _ h] at hg ⊢;exact hg
theorem zf4 [PC P] {d n c : Nat} {op : Op} {k : Nat} {x : ABlk} (hc : Closed H) (hlt : k < L.length) (hop : Does P l op (ext H lo L) (.slice (some ⟨(ext H lo L).fresh, 0, none⟩) n c) (((ext H lo L).kill (nb H k)).add x)) (hd : Nat.blt d nt = true)
  (hk : SeqL P rd nt ops (o :: r) (i + 1) ⟨ofA ((d, .slice (some ⟨nb H L.length, 0, none⟩) n c) :: l), ds, ext H lo (L.set k none ++ [some x])⟩ K) : SeqL P rd nt ops (⟨some d, op, ty, pos, af, none⟩ :: o :: r) i ⟨ofA l, ds, ext H lo L⟩ K :=
 zad hop hd (zcy zde (zlz hc hlt x) (by simp) hk)
structure JP (E : EL) (ds : List Nat) (h : AHeap) (s : St) : Prop where
 out : ∃ l2 h2, s = ⟨ofA l2, ds, h2⟩ ∧ Sub E l2 ∧ HQ h2 h
theorem zaP {E : EL} {h : AHeap} (hs : Sub E l) : JP E ds h ⟨ofA l, ds, h⟩ := ⟨⟨l, h, rfl, hs, .refl _⟩⟩
theorem ct_J {a b : Code} {s : St} (E : EL) {h : AHeap} (h1 : CT P rd nt a s (JP E ds h) Qe Qr) (h2 : CT P rd nt b ⟨ofA E, ds, h⟩ Qn Qe Qr) : CT P rd nt a s (fun s' => CT P rd nt b s' Qn Qe Qr) Qe Qr :=
 h1.mono (fun s' hj => by
  obtain ⟨l2, h2', rfl, hs, hq⟩ := hj.out;exact zcH hs hq h2) (fun _ _ h => h) (fun _ h => h)
theorem zcp [PC P] {Q : Value → AHeap → Prop} {rs : Array ResultVar} {a t : Nat} {b off n z : Nat} {ag s ro : Bool} {cs : List Value} {v : Value} (hc : Closed H) (hr : rs.toList = [.cell a t]) (ha : lk l a = some (.pointer (some ⟨b, off, none⟩))) (hb : (ext H lo L).get b = some (.cells cs z s ro))
  (ht : szOf P t = some (n, ag)) (hp : pt ag n cs off = some v) (hv : flatD 8 v = true) (hq : Q v H) : Fin P rs H Q ⟨ofA l, [], ext H lo L⟩ := by
 refine ⟨⟨_, [v], v, H, rfl, ?_, zcU hc (fun _ _ h => zaj hc h) (by simpa [packA] using hv), hq⟩⟩;obtain ⟨i, h1, h2, h3⟩ := zbr ht
 have hl : loadA (ctxOf P) (ext H lo L) t (.pointer (some ⟨b, off, none⟩)) = some v := by
  simp only [loadA, hb, h1];have := ziq h2 h3 cs off;unfold partA at this;rw [this, hp]
 simp only [hr, resultsA, evalA, zaG, ha, hl]
end
section
variable {P : Program} {l : EL} {h : AHeap}
theorem zfE {st : TypeId} {r : List TypeId} {s : Value} {b o n c m by' z : Nat} {ag k ro : Bool} {e : TypeId} {zs cs new : List Value} (hs : selOf P st = some (m, ag)) (he : (tyOf P st).map (·.und) = some (.slice e)) (hz : zerOf P e = some zs) (hby : (tyOf P e).map (·.bytes) = some by')
  (hb : h.get b = some (.cells cs z k ro)) (hn : sliceIn cs o (n * m) = some new) {base : Option Addr} {sl sc : Nat} (hsv : s = .slice base sl sc) (h1 : (2 * (sl + n) + 1000) * by' ≤ 2 ^ 48) (h2 : by' ≠ 0) (h3 : m ≠ 0) :
  ∃ ei : TI, ei.size = m ∧ appendA (ctxOf P) h (st :: st :: r) s (.slice (some ⟨b, o, none⟩) n c) = pushA h ei base sl sc n new := by
 obtain ⟨ti, e', ei, g1, g2, g3, g4, g5⟩ := zbI hs;obtain ⟨ez, k1, k2⟩ := zcT hz
 have : e' = e := by
  cases hti : tyOf P st with
  | none => rw [hti] at he; cases he
  | some ti' =>
   rw [hti] at he;have := zbJ hti;rw [g1] at this; cases this;simp only [Option.map_some, Option.some.injEq] at he;rw [g2] at he; cases he; rfl
 subst this;rw [g3] at k1; cases k1
 have hbe : ei.bytes = by' := by
  cases hti : tyOf P e' with
  | none => rw [hti] at hby; cases hby
  | some x =>
   rw [hti] at hby;have := zbJ hti;rw [g3] at this; cases this;simpa using hby
 refine ⟨ei, g4, ?_⟩;subst hsv
 have hlen : new.length = n * m := by
  simp only [sliceIn] at hn;split at hn
  ·rename_i hh; cases hn; simpa using hh
  ·cases hn
 have hnew : newsA (ctxOf P) h ei st (.slice (some ⟨b, o, none⟩) n c) = some (n, new) := by
  simp only [newsA, g1, g2, srcLen, srcCells, hb, g4, hn, hlen];simp
 simp only [appendA, g1, g2, g3, hnew, hbe, g4, k2];rw [if_neg];simp [h2, h3];omega
theorem zgt {cs : List Value} : sliceIn cs 0 cs.length = some cs := by simp [sliceIn]
theorem zd9 {args : Array Operand} {tys : Array TypeId} {st : TypeId} {r : List TypeId} {b o n c m by' z : Nat} {ag k ro : Bool} {e : TypeId} {zs cs new : List Value} (ha : evs l args.toList = some [.slice none 0 0, .slice (some ⟨b, o, none⟩) n c]) (hty : tys.toList = st :: st :: r)
  (hs : selOf P st = some (m, ag)) (he : (tyOf P st).map (·.und) = some (.slice e)) (hz : zerOf P e = some zs) (hby : (tyOf P e).map (·.bytes) = some by')
  (hb : h.get b = some (.cells cs z k ro)) (hn : sliceIn cs o (n * m) = some new) (h1 : (2 * (0 + n) + 1000) * by' ≤ 2 ^ 48) (h2 : by' ≠ 0) (h3 : m ≠ 0) (h4 : 0 < n) :
  Does P l (.call ⟨.builtin .append, args, tys⟩) h (.slice (some ⟨h.fresh, 0, none⟩) n n) (h.add (.cells new m true false)) := by
 refine zca ha ?_;rw [hty];obtain ⟨ei, e1, e2⟩ := zfE (r := r) (c := c) hs he hz hby hb hn (s := .slice none 0 0) rfl h1 h2 h3;simp only [biA, e2, pushA];rw [if_neg (by omega)];simp [e1]
theorem zc7 {args : Array Operand} {tys : Array TypeId} {st : TypeId} {r : List TypeId} {b o n c m by' z sl b0 : Nat} {ag k ro : Bool} {e : TypeId} {zs cs new old : List Value} (ha : evs l args.toList = some [.slice (some ⟨b0, 0, none⟩) sl sl, .slice (some ⟨b, o, none⟩) n c]) (hty : tys.toList = st :: st :: r)
  (hs : selOf P st = some (m, ag)) (he : (tyOf P st).map (·.und) = some (.slice e)) (hz : zerOf P e = some zs) (hby : (tyOf P e).map (·.bytes) = some by')
  (hb : h.get b = some (.cells cs z k ro)) (hn : sliceIn cs o (n * m) = some new) (h0 : h.get b0 = some (.cells old m true false)) (hl : old.length = sl * m) (hown : own b0 = true) (hone : new.all oneCell = true) (h1 : (2 * (sl + n) + 1000) * by' ≤ 2 ^ 48) (h2 : by' ≠ 0) (h3 : m ≠ 0) (h4 : 0 < n) :
  Does P l (.call ⟨.builtin .append, args, tys⟩) h (.slice (some ⟨h.fresh, 0, none⟩) (sl + n) (sl + n)) ((h.kill b0).add (.cells (old ++ new) m true false)) := by
 refine zca ha ?_;rw [hty];obtain ⟨ei, e1, e2⟩ := zfE (r := r) (c := c) hs he hz hby hb hn (s := .slice (some ⟨b0, 0, none⟩) sl sl) rfl h1 h2 h3;simp only [biA, e2, pushA];rw [if_neg (by omega)];have hold : sliceIn old 0 (sl * m) = some old := by rw [← hl]; exact zgt
 have hx : exactCap h b0 0 sl = false := by simp [exactCap, h0, hl]
 simp [h0, e1, hold, hx, hown, hone]
end
theorem zgk {α : Type} {g : α → Value} : ∀ (l : List α) (j : Nat) (v : α), j < l.length → writeAt (l.map g) j [g v] = some ((l.set j v).map g)
 | [], j, v, h => by simp at h
 | a :: r, 0, v, h => by simp [writeAt]
 | a :: r, j + 1, v, h => by
  have := zgk (g := g) r j v (by simpa using h);simp [writeAt, this]
theorem zbj {α : Type} {g : α → Value} {l : List α} {j : Nat} {v : α} (h : j < l.length) (hg : (g v).cells.toList = [g v]) (ho : oneCell (g v) = true) : stl 1 (l.map g) (0 + j * 1) (g v) = some ((l.set j v).map g) := by
 have := zgk (g := g) l j v h;simp only [stl, hg];simp [ho, this]
theorem zk2 {α : Type} {g : α → Value} {v : α} : ∀ n, repl [g v] n = (List.replicate n v).map g
 | 0 => rfl
 | n + 1 => by simp [repl, zk2 (g := g) n, List.replicate_succ]
theorem zbT {H : AHeap} {lo : Nat} {L : List (Option ABlk)} : HQ (ext H lo L) (ext (ext H lo L) (min lo H.fresh) []) := by
 refine ⟨fun b => rfl, rfl, ?_⟩;show min lo H.fresh = min (min lo H.fresh) (ext H lo L).fresh;have : H.fresh ≤ (ext H lo L).fresh := by rw [zal]; exact zbf _
 omega
section
variable {P : Program} {rd : Option Nat} {nt : Nat} {l : EL} {ds : List Nat} {Qe : Nat → St → Prop} {Qr : St → Prop}
theorem zdO {H h : AHeap} {Q : Value → AHeap → Prop} {rs : Array ResultVar} {L : List (Option ABlk)} {lo : Nat} {vs : List Value} (hc : Closed H) (hc' : Closed h) (hE : Ext H h) (hr : resE l rs.toList = some vs) (hv : flatD 8 (packA vs) = true) (hq : Q (packA vs) H) :
  Fin P rs H Q ⟨ofA l, [], ext h lo L⟩ :=
 ⟨⟨_, vs, packA vs, H, rfl, zdD hr, zcU hc (fun _ _ hx => zaj hc' (hE _ _ hx)) hv, hq⟩⟩
end
end Go.Den
end
noncomputable section
namespace Go.Den
theorem getApp {α : Type} {l m : List α} {k : Nat} {x : α} (h : l[k]? = some x) : (l ++ m)[k]? = some x := by
 rw [List.getElem?_append_left (List.getElem?_eq_some_iff.1 h).1]; exact h
theorem getSetLast {α : Type} {L : List α} {z x : α} : ((L ++ [z]).set L.length x)[L.length]? = some x := by simp
section
variable {P : Program} {rd : Option Nat} {nt : Nat} {ops : Array Oper} {l : EL} {ds : List Nat} {K : St → Prop} {i : Nat} {r : List Oper} {H : AHeap} {lo : Nat} {L0 : List (Option ABlk)} {ow : List Nat} {N : List ABlk}
 {Qn : St → Prop} {Qe : Nat → St → Prop} {Qr : St → Prop}
theorem zqD {E : EL} {h : AHeap} {b : Code} (h2 : CT P rd nt b ⟨ofA E, ds, h⟩ Qn Qe Qr) (s' : St) (hj : JP E ds h s') : CT P rd nt b s' Qn Qe Qr := by
 obtain ⟨l2, h2', rfl, hs, hq⟩ := hj.out;exact zcH hs hq h2
theorem zdf {b : Code} {s : St} (E : EL) {h : AHeap} (h1 : SeqL P rd nt ops r i s (JP E ds h)) (h2 : CT P rd nt b ⟨ofA E, ds, h⟩ Qn Qe Qr) : SeqL P rd nt ops r i s (fun s' => CT P rd nt b s' Qn Qe Qr) :=
 ⟨zfe (zqD h2) h1.out⟩
theorem sd_J {b : Code} (E : EL) {h : AHeap} (h1 : SeqD P rd nt ops r i ds l H lo L0 ow N (JP E ds h)) (h2 : CT P rd nt b ⟨ofA E, ds, h⟩ Qn Qe Qr) : SeqD P rd nt ops r i ds l H lo L0 ow N (fun s' => CT P rd nt b s' Qn Qe Qr) :=
  ⟨⟨fun all a1 a2 a3 a4 dsx hI => by
    obtain ⟨dsf, ts, l', q1, q2, q3⟩ := h1.out.out all a1 a2 a3 a4 dsx hI;exact ⟨dsf, ts, l', q1, q2, zqD h2 _ q3⟩⟩⟩
variable {ty : TypeId} {pos : String} {af : Array Edge}
theorem zkR {o : Oper} {j t : Nat} {w : Bool} {l : EL} (hg : o.guard = some (j, w)) (hd : gdst ops j = some t) (hl : lk l t = some undefV) : wantedA o ops (ofA l) = some false := by
 unfold gdst at hd;split at hd
 ·rename_i p hp;have hp' : ops[j]? = some p := by simpa using hp
  simp only [wantedA, hg, hp', hd, zaG, hl, undefV]
 ·cases hd
theorem zbt {d : Nat} {op : Op} {j t : Nat} {w : Bool} {h : AHeap} (hd : gdst ops j = some t) (hl : lk l t = some undefV) (hdn : Nat.blt d nt = true)
  (hk : SeqL P rd nt ops r (i + 1) ⟨ofA ((d, undefV) :: l), ds, h⟩ K) : SeqL P rd nt ops (⟨some d, op, ty, pos, af, some (j, w)⟩ :: r) i ⟨ofA l, ds, h⟩ K := by
 refine ⟨fun ho => ?_⟩;have hn : (d < nt) := by rw [Nat.blt_eq] at hdn; exact hdn
 refine zeO ho (s := ⟨ofA l, ds, h⟩) (zkR rfl hd hl) (e := ofA ((d, undefV) :: l)) ?_ hk.out;simp only [putDst];rw [if_pos hn]; rfl
theorem zpN {o : Oper} {j t : Nat} {w : Bool} {ad : List Nat} (hg : o.guard = some (j, w)) (hd : gdst ops j = some t) (hl : lk l t = some undefV) (ha : ∀ x ∈ ad, x ∉ reads ops o) : wantedA o ops (ofA (fl ad l)) = some false := by
 refine zkR hg hd ?_;rw [zhq, hl, if_neg];rw [List.contains_eq_mem];have := fun hm => ha t hm (zgE hg hd)
 simpa using this
theorem zhB {d : Nat} {op : Op} {j t : Nat} {w : Bool} (hg : gdst ops j = some t) (hl : lk l t = some undefV) (hd : Nat.blt d nt = true)
  (hk : SeqD P rd nt ops r (i + 1) ds ((d, undefV) :: l) H lo L0 ow N K) : SeqD P rd nt ops (⟨some d, op, ty, pos, af, some (j, w)⟩ :: r) i ds l H lo L0 ow N K := by
 refine zdw fun ho => ?_
 have key : ∀ (ad : List Nat) (h : AHeap), (∀ x ∈ ad, x ∉ reads ops ⟨some d, op, ty, pos, af, some (j, w)⟩) → OpT P rd nt ops i ⟨ofA (fl ad l), ds, h⟩ (fun s => s = ⟨ofA (upd (some d) undefV (fl ad l)), ds, h⟩) := fun ad h ha =>
  zeO ho (s := ⟨ofA (fl ad l), ds, h⟩) (zpN rfl hg hl ha) (zfk hd) rfl
 cases hf : isFree op with
 | true => exact zf7 hf key hk
 | false => exact zdB hf (zb6 _) (fun ad ha => key ad _ ha) hk
end
end Go.Den
end
namespace Go.Den
section
variable {P : Program} {rd : Option Nat} {nt : Nat} {ops : Array Oper} {r : List Oper} {i : Nat} {ds : List Nat} {l : EL} {h h' : AHeap} {K : St → Prop} {d : Nat} {op : Op} {v : Value} {ty : TypeId} {pos : String} {af : Array Edge} {j t : Nat} {w b : Bool} {H : AHeap} {lo : Nat} {L L0 : List (Option ABlk)} {ow : List Nat} {N : List ABlk} {x : ABlk} {n c k : Nat} {Qn : St → Prop} {Qe : Nat → St → Prop} {Qr : St → Prop} {E : EL}
theorem zb [PC P] (k : SeqL P rd nt ops r (i + 1) ⟨ofA ((d, .pointer (some ⟨nb H L.length, 0, none⟩)) :: l), ds, ext H lo (L ++ [some x])⟩ K) (a : Does P l op (ext H lo L) (.pointer (some ⟨(ext H lo L).fresh, 0, none⟩)) ((ext H lo L).add x) := by first | exact do_box rfl rfl rfl | exact zgj rfl rfl) (b2 : Nat.blt d nt = true := by exact rfl) : SeqL P rd nt ops (⟨some d, op, ty, pos, af, none⟩ :: r) i ⟨ofA l, ds, ext H lo L⟩ K := zkZ a b2 k
theorem zp [PC P] (k : SeqL P rd nt ops r (i + 1) ⟨ofA ((d, v) :: l), ds, h'⟩ K) (a : Does P l op h v h' := by first | exact ziJ rfl | exact zhe rfl | exact zd7 rfl rfl | exact zbh rfl rfl | exact zeZ rfl rfl | exact ze0 rfl rfl | exact zpp rfl rfl rfl) (b2 : Nat.blt d nt = true := by exact rfl) : SeqL P rd nt ops (⟨some d, op, ty, pos, af, none⟩ :: r) i ⟨ofA l, ds, h⟩ K := zad a b2 k
theorem zg [PC P] (k : SeqL P rd nt ops r (i + 1) ⟨ofA ((d, v) :: l), ds, h'⟩ K) (g1 : gdst ops j = some t := by exact rfl) (g2 : lk l t = some (.bool w) := by exact rfl) (a : Does P l op h v h' := by first | exact ziJ rfl | exact zhe rfl | exact zd7 rfl rfl | exact zbh rfl rfl | exact zeZ rfl rfl | exact ze0 rfl rfl | exact zpp rfl rfl rfl) (b2 : Nat.blt d nt = true := by exact rfl) : SeqL P rd nt ops (⟨some d, op, ty, pos, af, some (j, w)⟩ :: r) i ⟨ofA l, ds, h⟩ K := zay g1 g2 a b2 k
theorem zn (k : SeqL P rd nt ops r (i + 1) ⟨ofA ((d, undefV) :: l), ds, h⟩ K) (g1 : gdst ops j = some t := by exact rfl) (g2 : lk l t = some (.bool b) := by exact rfl) (g3 : b = !w := by exact rfl) (b2 : Nat.blt d nt = true := by exact rfl) : SeqL P rd nt ops (⟨some d, op, ty, pos, af, some (j, w)⟩ :: r) i ⟨ofA l, ds, h⟩ K := zmB g1 g2 g3 b2 k
theorem zs1 {G G2 : Prop} (h : G2) (k : G2 → G := by intro k; (first | apply zcj | apply zc8 | apply zaf | refine zp ?_ | refine zg ?_ | refine zn ?_ | refine zb ?_ | apply zbb | apply zaV | apply zlL); exact k) : G := k h
theorem zst {G G2 : Prop} (h : G2) (k : G2 → G := by intro k; (repeat (first | apply zcj | apply zc8 | apply zaf | refine zp ?_ | refine zg ?_ | refine zn ?_ | refine zb ?_ | apply zbb | apply zaV | apply zlL)); exact k) : G := k h
theorem zsb (h : Sub E l := by repeat (first | exact zbi | apply za0 rfl)) : Sub E l := h
theorem zq0 [PC P] (k : SeqL P rd nt ops r (i + 1) ⟨ofA ((d, v) :: l), ds, h'⟩ K) (a : Does P l op h v h' := by exact za5 rfl rfl rfl trivial) (b2 : Nat.blt d nt = true := by exact rfl) : SeqL P rd nt ops (⟨some d, op, ty, pos, af, none⟩ :: r) i ⟨ofA l, ds, h⟩ K := zad a b2 k
theorem zq1 [PC P] (k : SeqL P rd nt ops r (i + 1) ⟨ofA ((d, v) :: l), ds, h'⟩ K) (g1 : gdst ops j = some t := by exact rfl) (g2 : lk l t = some (.bool w) := by exact rfl) (a : Does P l op h v h' := by exact za5 rfl rfl rfl trivial) (b2 : Nat.blt d nt = true := by exact rfl) : SeqL P rd nt ops (⟨some d, op, ty, pos, af, some (j, w)⟩ :: r) i ⟨ofA l, ds, h⟩ K := zay g1 g2 a b2 k
theorem zq2 [PC P] (k : SeqL P rd nt ops r (i + 1) ⟨ofA ((d, v) :: l), ds, h'⟩ K) (a : Does P l op h v h' := by exact zaR rfl rfl rfl (by exact zb7 (by omega))) (b2 : Nat.blt d nt = true := by exact rfl) : SeqL P rd nt ops (⟨some d, op, ty, pos, af, none⟩ :: r) i ⟨ofA l, ds, h⟩ K := zad a b2 k
theorem zq3 [PC P] (k : SeqL P rd nt ops r (i + 1) ⟨ofA ((d, v) :: l), ds, h'⟩ K) (a : Does P l op h v h' := by exact zaw rfl (by exact zaj (by assumption) (by assumption)) rfl (by exact zgK (by assumption) (by omega))) (b2 : Nat.blt d nt = true := by exact rfl) : SeqL P rd nt ops (⟨some d, op, ty, pos, af, none⟩ :: r) i ⟨ofA l, ds, h⟩ K := zad a b2 k
theorem zq4 [PC P] (k : SeqL P rd nt ops r (i + 1) ⟨ofA ((d, v) :: l), ds, h'⟩ K) (a : Does P l op h v h' := by exact zpl rfl (by omega)) (b2 : Nat.blt d nt = true := by exact rfl) : SeqL P rd nt ops (⟨some d, op, ty, pos, af, none⟩ :: r) i ⟨ofA l, ds, h⟩ K := zad a b2 k
theorem zq5 [PC P] (k : SeqD P rd nt ops r (i + 1) ds ((d, v) :: l) H lo L0 ow N K) (f1 : isFree op = true := by exact rfl) (a : ∀ h, Does P l op h v h := by intro _; exact ziJ rfl) (b2 : Nat.blt d nt = true := by exact rfl) : SeqD P rd nt ops (⟨some d, op, ty, pos, af, none⟩ :: r) i ds l H lo L0 ow N K := zau f1 a b2 k
theorem zq6 [PC P] (k : SeqD P rd nt ops r (i + 1) ds ((d, v) :: l) H lo L0 ow N K) (f1 : isFree op = true := by exact rfl) (a : ∀ h, Does P l op h v h := by intro _; exact zaR rfl rfl rfl (by exact zb7 (by omega))) (b2 : Nat.blt d nt = true := by exact rfl) : SeqD P rd nt ops (⟨some d, op, ty, pos, af, none⟩ :: r) i ds l H lo L0 ow N K := zau f1 a b2 k
theorem zq7 [PC P] (k : SeqD P rd nt ops r (i + 1) ds ((d, v) :: l) H lo L0 ow N K) (f1 : isFree op = false := by exact rfl) (a : Does P l op (ext H lo (L0 ++ N.map fun _ => none)) v (ext H lo (L0 ++ N.map fun _ => none)) := by exact zaw rfl (by exact zaj (by assumption) (by assumption)) rfl (by exact zgK (by assumption) (by omega))) (b2 : Nat.blt d nt = true := by exact rfl) : SeqD P rd nt ops (⟨some d, op, ty, pos, af, none⟩ :: r) i ds l H lo L0 ow N K := zaS f1 a b2 k
theorem zq8 [PC P] (k : SeqD P rd nt ops r (i + 1) ds ((d, v) :: l) H lo L0 ow N K) (f1 : isFree op = true := by exact rfl) (a : ∀ h, Does P l op h v h := by intro _; exact za5 rfl rfl rfl trivial) (b2 : Nat.blt d nt = true := by exact rfl) : SeqD P rd nt ops (⟨some d, op, ty, pos, af, none⟩ :: r) i ds l H lo L0 ow N K := zau f1 a b2 k
theorem zq9 [PC P] (k : SeqL P rd nt ops r (i + 1) ⟨ofA ((d, v) :: l), ds, h'⟩ K) (a : Does P l op h v h' := by exact ziK rfl rfl rfl) (b2 : Nat.blt d nt = true := by exact rfl) : SeqL P rd nt ops (⟨some d, op, ty, pos, af, none⟩ :: r) i ⟨ofA l, ds, h⟩ K := zad a b2 k
theorem zq10 [PC P] (k : SeqL P rd nt ops r (i + 1) ⟨ofA ((d, v) :: l), ds, h'⟩ K) (a : Does P l op h v h' := by exact zeo rfl rfl) (b2 : Nat.blt d nt = true := by exact rfl) : SeqL P rd nt ops (⟨some d, op, ty, pos, af, none⟩ :: r) i ⟨ofA l, ds, h⟩ K := zad a b2 k
theorem zq11 [PC P] (k : SeqL P rd nt ops r (i + 1) ⟨ofA ((d, v) :: l), ds, h'⟩ K) (g1 : gdst ops j = some t := by exact rfl) (g2 : lk l t = some (.bool w) := by exact rfl) (a : Does P l op h v h' := by exact zeo rfl rfl) (b2 : Nat.blt d nt = true := by exact rfl) : SeqL P rd nt ops (⟨some d, op, ty, pos, af, some (j, w)⟩ :: r) i ⟨ofA l, ds, h⟩ K := zay g1 g2 a b2 k
theorem zq12 [PC P] (k : SeqD P rd nt ops r (i + 1) ds ((d, v) :: l) H lo L0 ow N K) (f1 : isFree op = true := by exact rfl) (a : ∀ h, Does P l op h v h := by intro _; exact zbh rfl rfl) (b2 : Nat.blt d nt = true := by exact rfl) : SeqD P rd nt ops (⟨some d, op, ty, pos, af, none⟩ :: r) i ds l H lo L0 ow N K := zau f1 a b2 k
theorem zq13 [PC P] (k : SeqD P rd nt ops r (i + 1) ds ((d, v) :: l) H lo L0 ow N K) (f1 : isFree op = false := by exact rfl) (a : Does P l op (ext H lo (L0 ++ N.map fun _ => none)) v (ext H lo (L0 ++ N.map fun _ => none)) := by exact zaw rfl (by exact zaa rfl) rfl (by exact rfl)) (b2 : Nat.blt d nt = true := by exact rfl) : SeqD P rd nt ops (⟨some d, op, ty, pos, af, none⟩ :: r) i ds l H lo L0 ow N K := zaS f1 a b2 k
theorem zq14 [PC P] (k : SeqD P rd nt ops r (i + 1) ds ((d, v) :: l) H lo L0 ow N K) (f1 : isFree op = true := by exact rfl) (a : ∀ h, Does P l op h v h := by intro _; exact zhe rfl) (b2 : Nat.blt d nt = true := by exact rfl) : SeqD P rd nt ops (⟨some d, op, ty, pos, af, none⟩ :: r) i ds l H lo L0 ow N K := zau f1 a b2 k
theorem zq15 [PC P] (k : SeqL P rd nt ops r (i + 1) ⟨ofA ((d, v) :: l), ds, h'⟩ K) (a : Does P l op h v h' := by exact zaw rfl (by exact zaj (by assumption) (by assumption)) rfl (by exact zon (by assumption) (by omega))) (b2 : Nat.blt d nt = true := by exact rfl) : SeqL P rd nt ops (⟨some d, op, ty, pos, af, none⟩ :: r) i ⟨ofA l, ds, h⟩ K := zad a b2 k
theorem zq16 [PC P] {f : Code} (k2 : CT P rd nt f ⟨ofA l, ds, ext H lo (L.set k (some x))⟩ Qn Qe Qr) (a : Does P l op (ext H lo L) v ((ext H lo L).put (nb H k) x) := by exact zav rfl rfl (by exact zaa List.getElem?_concat_length) rfl rfl (zat _)) (e : k < L.length := by exact (by simp)) (hc : Closed H := by assumption) : SeqL P rd nt ops [⟨none, op, ty, pos, af, none⟩] i ⟨ofA l, ds, ext H lo L⟩ (fun s => CT P rd nt f s Qn Qe Qr) := zcJ hc e a k2
theorem zq17 [PC P] (k : SeqL P rd nt ops r (i + 1) ⟨ofA ((d, v) :: l), ds, h'⟩ K) (a : Does P l op h v h' := by exact zaw rfl (by exact zaa rfl) rfl (by exact rfl)) (b2 : Nat.blt d nt = true := by exact rfl) : SeqL P rd nt ops (⟨some d, op, ty, pos, af, none⟩ :: r) i ⟨ofA l, ds, h⟩ K := zad a b2 k
theorem zq18 [PC P] (k : SeqL P rd nt ops r (i + 1) ⟨ofA ((d, v) :: l), ds, h'⟩ K) (a : Does P l op h v h' := by exact zaw rfl (by exact zaj (by assumption) (by assumption)) rfl (by exact rfl)) (b2 : Nat.blt d nt = true := by exact rfl) : SeqL P rd nt ops (⟨some d, op, ty, pos, af, none⟩ :: r) i ⟨ofA l, ds, h⟩ K := zad a b2 k
theorem zq19 [PC P] (k : SeqL P rd nt ops r (i + 1) ⟨ofA ((d, .slice (some ⟨nb H L.length, 0, none⟩) n c) :: l), ds, ext H lo (L ++ [some x])⟩ K) (a : Does P l op (ext H lo L) (.slice (some ⟨(ext H lo L).fresh, 0, none⟩) n c) ((ext H lo L).add x) := by exact zaM rfl rfl rfl rfl rfl rfl rfl) (b2 : Nat.blt d nt = true := by exact rfl) : SeqL P rd nt ops (⟨some d, op, ty, pos, af, none⟩ :: r) i ⟨ofA l, ds, ext H lo L⟩ K := zbO a b2 k
theorem zq20 [PC P] (k : SeqL P rd nt ops r (i + 1) ⟨ofA ((d, v) :: l), ds, h'⟩ K) (a : Does P l op h v h' := by exact zaw rfl (by exact zaa getSetLast) rfl (by exact rfl)) (b2 : Nat.blt d nt = true := by exact rfl) : SeqL P rd nt ops (⟨some d, op, ty, pos, af, none⟩ :: r) i ⟨ofA l, ds, h⟩ K := zad a b2 k
theorem zq21 [PC P] (k : SeqL P rd nt ops r (i + 1) ⟨ofA ((d, v) :: l), ds, h'⟩ K) (a : Does P l op h v h' := by exact zaw rfl (by exact zaj (by assumption) (by assumption)) rfl (by exact zhE (by assumption) (by omega) (Nat.le_of_ble_eq_true rfl) rfl)) (b2 : Nat.blt d nt = true := by exact rfl) : SeqL P rd nt ops (⟨some d, op, ty, pos, af, none⟩ :: r) i ⟨ofA l, ds, h⟩ K := zad a b2 k
theorem zq22 [PC P] (k : SeqL P rd nt ops r (i + 1) ⟨ofA ((d, v) :: l), ds, h'⟩ K) (g1 : gdst ops j = some t := by exact rfl) (g2 : lk l t = some (.bool w) := by exact rfl) (a : Does P l op h v h' := by exact zaR rfl rfl rfl (by exact zb7 (by omega))) (b2 : Nat.blt d nt = true := by exact rfl) : SeqL P rd nt ops (⟨some d, op, ty, pos, af, some (j, w)⟩ :: r) i ⟨ofA l, ds, h⟩ K := zay g1 g2 a b2 k
theorem zq23 [PC P] (k : SeqL P rd nt ops r (i + 1) ⟨ofA ((d, v) :: l), ds, h'⟩ K) (g1 : gdst ops j = some t := by exact rfl) (g2 : lk l t = some (.bool w) := by exact rfl) (a : Does P l op h v h' := by exact zaw rfl (by exact zaj (by assumption) (by assumption)) rfl (by exact zhE (by assumption) (by omega) (Nat.le_of_ble_eq_true rfl) rfl)) (b2 : Nat.blt d nt = true := by exact rfl) : SeqL P rd nt ops (⟨some d, op, ty, pos, af, some (j, w)⟩ :: r) i ⟨ofA l, ds, h⟩ K := zay g1 g2 a b2 k
theorem zq24 [PC P] (k : SeqD P rd nt ops r (i + 1) ds ((d, v) :: l) H lo L0 ow N K) (f1 : isFree op = false := by exact rfl) (a : Does P l op (ext H lo (L0 ++ N.map fun _ => none)) v (ext H lo (L0 ++ N.map fun _ => none)) := by exact zaw rfl (by exact zaj (by assumption) (by assumption)) rfl (by exact zhE (by assumption) (by omega) (Nat.le_of_ble_eq_true rfl) rfl)) (b2 : Nat.blt d nt = true := by exact rfl) : SeqD P rd nt ops (⟨some d, op, ty, pos, af, none⟩ :: r) i ds l H lo L0 ow N K := zaS f1 a b2 k
theorem zq25 [PC P] (k : SeqL P rd nt ops r (i + 1) ⟨ofA ((d, v) :: l), ds, h'⟩ K) (g1 : gdst ops j = some t := by exact rfl) (g2 : lk l t = some (.bool w) := by exact rfl) (a : Does P l op h v h' := by exact zaw rfl (by exact zaa rfl) rfl (by exact rfl)) (b2 : Nat.blt d nt = true := by exact rfl) : SeqL P rd nt ops (⟨some d, op, ty, pos, af, some (j, w)⟩ :: r) i ⟨ofA l, ds, h⟩ K := zay g1 g2 a b2 k
theorem zq26 [PC P] (k : SeqL P rd nt ops r (i + 1) ⟨ofA ((d, v) :: l), ds, h'⟩ K) (a : Does P l op h v h' := by exact zlI rfl rfl (by omega)) (b2 : Nat.blt d nt = true := by exact rfl) : SeqL P rd nt ops (⟨some d, op, ty, pos, af, none⟩ :: r) i ⟨ofA l, ds, h⟩ K := zad a b2 k
theorem zq27 [PC P] (k : SeqL P rd nt ops r (i + 1) ⟨ofA ((d, v) :: l), ds, h'⟩ K) (a : Does P l op h v h' := by exact zjI rfl rfl (by omega)) (b2 : Nat.blt d nt = true := by exact rfl) : SeqL P rd nt ops (⟨some d, op, ty, pos, af, none⟩ :: r) i ⟨ofA l, ds, h⟩ K := zad a b2 k
theorem zq28 [PC P] (k : SeqL P rd nt ops r (i + 1) ⟨ofA ((d, v) :: l), ds, h'⟩ K) (a : Does P l op h v h' := by exact ze1 rfl rfl rfl rfl) (b2 : Nat.blt d nt = true := by exact rfl) : SeqL P rd nt ops (⟨some d, op, ty, pos, af, none⟩ :: r) i ⟨ofA l, ds, h⟩ K := zad a b2 k
theorem zq29 [PC P] {f : Code} (k2 : CT P rd nt f ⟨ofA l, ds, ext H lo (L.set k (some x))⟩ Qn Qe Qr) (a : Does P l op (ext H lo L) v ((ext H lo L).put (nb H k) x) := by exact zav rfl rfl (by exact zaa rfl) rfl rfl (zat _)) (e : k < L.length := by exact Nat.le_of_ble_eq_true rfl) (hc : Closed H := by assumption) : SeqL P rd nt ops [⟨none, op, ty, pos, af, none⟩] i ⟨ofA l, ds, ext H lo L⟩ (fun s => CT P rd nt f s Qn Qe Qr) := zcJ hc e a k2
theorem zq30 [PC P] (k : SeqD P rd nt ops r (i + 1) ds ((d, v) :: l) H lo L0 ow N K) (f1 : isFree op = true := by exact rfl) (a : ∀ h, Does P l op h v h := by intro _; exact zjI rfl rfl (by omega)) (b2 : Nat.blt d nt = true := by exact rfl) : SeqD P rd nt ops (⟨some d, op, ty, pos, af, none⟩ :: r) i ds l H lo L0 ow N K := zau f1 a b2 k
theorem zq31 [PC P] (k : SeqD P rd nt ops r (i + 1) ds ((d, v) :: l) H lo L0 ow N K) (f1 : isFree op = true := by exact rfl) (a : ∀ h, Does P l op h v h := by intro _; exact zlI rfl rfl (by omega)) (b2 : Nat.blt d nt = true := by exact rfl) : SeqD P rd nt ops (⟨some d, op, ty, pos, af, none⟩ :: r) i ds l H lo L0 ow N K := zau f1 a b2 k
theorem zq32 [PC P] {o : Oper} (k2 : SeqL P rd nt ops (o :: r) (i + 1) ⟨ofA l, ds, ext H lo (L.set k (some x))⟩ K) (a : Does P l op (ext H lo L) v ((ext H lo L).put (nb H k) x) := by exact zav rfl rfl (by exact zaa rfl) rfl rfl (zat _)) (e : k < L.length := by exact Nat.le_of_ble_eq_true rfl) (hc : Closed H := by assumption) : SeqL P rd nt ops (⟨none, op, ty, pos, af, none⟩ :: o :: r) i ⟨ofA l, ds, ext H lo L⟩ K := zj7 hc e a k2
theorem zq33 [PC P] (k : SeqL P rd nt ops r (i + 1) ⟨ofA ((d, v) :: l), ds, h'⟩ K) (a : Does P l op h v h' := by exact zpo rfl rfl (by assumption)) (b2 : Nat.blt d nt = true := by exact rfl) : SeqL P rd nt ops (⟨some d, op, ty, pos, af, none⟩ :: r) i ⟨ofA l, ds, h⟩ K := zad a b2 k
theorem zq34 [PC P] (k : SeqL P rd nt ops r (i + 1) ⟨ofA ((d, v) :: l), ds, h'⟩ K) (a : Does P l op h v h' := by exact zaw rfl (by exact zaa (by assumption)) rfl (by exact rfl)) (b2 : Nat.blt d nt = true := by exact rfl) : SeqL P rd nt ops (⟨some d, op, ty, pos, af, none⟩ :: r) i ⟨ofA l, ds, h⟩ K := zad a b2 k
theorem zq35 [PC P] (k : SeqD P rd nt ops r (i + 1) ds ((d, v) :: l) H lo L0 ow N K) (f1 : isFree op = false := by exact rfl) (a : Does P l op (ext H lo (L0 ++ N.map fun _ => none)) v (ext H lo (L0 ++ N.map fun _ => none)) := by exact zaw rfl (by exact zaa (getApp (by assumption))) rfl (by exact rfl)) (b2 : Nat.blt d nt = true := by exact rfl) : SeqD P rd nt ops (⟨some d, op, ty, pos, af, none⟩ :: r) i ds l H lo L0 ow N K := zaS f1 a b2 k
theorem zq36 [PC P] (k : SeqL P rd nt ops r (i + 1) ⟨ofA ((d, v) :: l), ds, h'⟩ K) (a : Does P l op h v h' := by exact zdV rfl rfl (by omega)) (b2 : Nat.blt d nt = true := by exact rfl) : SeqL P rd nt ops (⟨some d, op, ty, pos, af, none⟩ :: r) i ⟨ofA l, ds, h⟩ K := zad a b2 k
theorem zq37 [PC P] (k : SeqD P rd nt ops r (i + 1) ds ((d, v) :: l) H lo L0 ow N K) (f1 : isFree op = false := by exact rfl) (a : Does P l op (ext H lo (L0 ++ N.map fun _ => none)) v (ext H lo (L0 ++ N.map fun _ => none)) := by exact zaw rfl (by exact zaj (by assumption) (by assumption)) rfl (by exact zqh (by assumption) (by omega))) (b2 : Nat.blt d nt = true := by exact rfl) : SeqD P rd nt ops (⟨some d, op, ty, pos, af, none⟩ :: r) i ds l H lo L0 ow N K := zaS f1 a b2 k
theorem zq38 [PC P] (k : SeqD P rd nt ops r (i + 1) ds ((d, v) :: l) H lo L0 ow N K) (f1 : isFree op = true := by exact rfl) (a : ∀ h, Does P l op h v h := by intro _; exact zeZ rfl rfl) (b2 : Nat.blt d nt = true := by exact rfl) : SeqD P rd nt ops (⟨some d, op, ty, pos, af, none⟩ :: r) i ds l H lo L0 ow N K := zau f1 a b2 k
theorem zq39 [PC P] (k : SeqD P rd nt ops r (i + 1) ds ((d, v) :: l) H lo L0 ow N K) (f1 : isFree op = true := by exact rfl) (g1 : gdst ops j = some t := by exact rfl) (g2 : lk l t = some (.bool w) := by exact rfl) (a : ∀ h, Does P l op h v h := by intro _; exact ziJ rfl) (b2 : Nat.blt d nt = true := by exact rfl) : SeqD P rd nt ops (⟨some d, op, ty, pos, af, some (j, w)⟩ :: r) i ds l H lo L0 ow N K := za1 f1 g1 g2 a b2 k
theorem zq40 [PC P] (k : SeqD P rd nt ops r (i + 1) ds ((d, v) :: l) H lo L0 ow N K) (f1 : isFree op = true := by exact rfl) (g1 : gdst ops j = some t := by exact rfl) (g2 : lk l t = some (.bool w) := by exact rfl) (a : ∀ h, Does P l op h v h := by intro _; exact zaR rfl rfl rfl (by exact zb7 (by omega))) (b2 : Nat.blt d nt = true := by exact rfl) : SeqD P rd nt ops (⟨some d, op, ty, pos, af, some (j, w)⟩ :: r) i ds l H lo L0 ow N K := za1 f1 g1 g2 a b2 k
theorem zq41 [PC P] (k : SeqD P rd nt ops r (i + 1) ds ((d, v) :: l) H lo L0 ow N K) (f1 : isFree op = true := by exact rfl) (a : ∀ h, Does P l op h v h := by intro _; exact ze0 rfl rfl) (b2 : Nat.blt d nt = true := by exact rfl) : SeqD P rd nt ops (⟨some d, op, ty, pos, af, none⟩ :: r) i ds l H lo L0 ow N K := zau f1 a b2 k
theorem zq42 [PC P] (k : SeqL P rd nt ops r (i + 1) ⟨ofA ((d, v) :: l), ds, h'⟩ K) (a : Does P l op h v h' := by exact zaw rfl (by exact zaj (by assumption) (by assumption)) rfl (by exact zqh (by assumption) (by omega))) (b2 : Nat.blt d nt = true := by exact rfl) : SeqL P rd nt ops (⟨some d, op, ty, pos, af, none⟩ :: r) i ⟨ofA l, ds, h⟩ K := zad a b2 k
theorem zq43 [PC P] (k : SeqL P rd nt ops r (i + 1) ⟨ofA ((d, v) :: l), ds, h'⟩ K) (a : Does P l op h v h' := by exact zaw rfl (by exact zaa (by assumption)) rfl (by exact zdH (by omega))) (b2 : Nat.blt d nt = true := by exact rfl) : SeqL P rd nt ops (⟨some d, op, ty, pos, af, none⟩ :: r) i ⟨ofA l, ds, h⟩ K := zad a b2 k
theorem zq44 [PC P] (k : SeqL P rd nt ops r (i + 1) ⟨ofA ((d, v) :: l), ds, h'⟩ K) (a : Does P l op h v h' := by exact zeY rfl rfl (by simp; omega)) (b2 : Nat.blt d nt = true := by exact rfl) : SeqL P rd nt ops (⟨some d, op, ty, pos, af, none⟩ :: r) i ⟨ofA l, ds, h⟩ K := zad a b2 k
theorem zq45 [PC P] (k : SeqL P rd nt ops r (i + 1) ⟨ofA ((d, v) :: l), ds, h'⟩ K) (a : Does P l op h v h' := by exact zaw rfl (by exact zaj (by assumption) (by assumption)) rfl (by exact zdH (by omega))) (b2 : Nat.blt d nt = true := by exact rfl) : SeqL P rd nt ops (⟨some d, op, ty, pos, af, none⟩ :: r) i ⟨ofA l, ds, h⟩ K := zad a b2 k
theorem zq46 [PC P] (k : SeqD P rd nt ops r (i + 1) ds ((d, v) :: l) H lo L0 ow N K) (f1 : isFree op = false := by exact rfl) (a : Does P l op (ext H lo (L0 ++ N.map fun _ => none)) v (ext H lo (L0 ++ N.map fun _ => none)) := by exact zaw rfl (by exact zaj (by assumption) (by assumption)) rfl (by exact zdH (by omega))) (b2 : Nat.blt d nt = true := by exact rfl) : SeqD P rd nt ops (⟨some d, op, ty, pos, af, none⟩ :: r) i ds l H lo L0 ow N K := zaS f1 a b2 k
theorem zq47 [PC P] (k : SeqD P rd nt ops r (i + 1) ds ((d, v) :: l) H lo L0 ow N K) (f1 : isFree op = true := by exact rfl) (a : ∀ h, Does P l op h v h := by intro _; exact zaR rfl rfl rfl (by exact idx_int (by omega))) (b2 : Nat.blt d nt = true := by exact rfl) : SeqD P rd nt ops (⟨some d, op, ty, pos, af, none⟩ :: r) i ds l H lo L0 ow N K := zau f1 a b2 k
theorem zq48 [PC P] (k : SeqD P rd nt ops r (i + 1) ds ((d, v) :: l) H lo L0 ow N K) (f1 : isFree op = false := by exact rfl) (a : Does P l op (ext H lo (L0 ++ N.map fun _ => none)) v (ext H lo (L0 ++ N.map fun _ => none)) := by exact zaw rfl (by exact zaj (by assumption) (by assumption)) rfl (by exact zon (by assumption) (by omega))) (b2 : Nat.blt d nt = true := by exact rfl) : SeqD P rd nt ops (⟨some d, op, ty, pos, af, none⟩ :: r) i ds l H lo L0 ow N K := zaS f1 a b2 k
theorem zq49 [PC P] (k : SeqL P rd nt ops r (i + 1) ⟨ofA ((d, v) :: l), ds, h'⟩ K) (g1 : gdst ops j = some t := by exact rfl) (g2 : lk l t = some (.bool w) := by exact rfl) (a : Does P l op h v h' := by exact zaw rfl (by exact zaj (by assumption) (by assumption)) rfl (by exact rfl)) (b2 : Nat.blt d nt = true := by exact rfl) : SeqL P rd nt ops (⟨some d, op, ty, pos, af, some (j, w)⟩ :: r) i ⟨ofA l, ds, h⟩ K := zay g1 g2 a b2 k
end
end Go.Den
