/- The symbolic layer: appends in place, blocks of the caller that are dropped or turned. -/
import Derived.Test.YtfjihdlpohljbaaGreatSxU
import Derived.Test.YtfjihdlpohljbaaGreatSxR
import Derived.Test.YtfjihdlpohljbaaGreatElJ
noncomputable section
namespace Go.Den

section
variable {P : Program} {l : EL} {h : AHeap}
end

section
variable {H : AHeap} {lo : Nat} {L : List (Option ABlk)}
theorem kill_get {b c : Nat} (hb : own b = true) : (H.kill b).get c = if c = b then none else H.get c := AHeap.get_kill _ _ _ hb
end

section
variable {P : Program} {rd : Option Nat} {nt : Nat} {ops : Array Oper} {l : EL} {ds : List Nat} {K : St → Prop} {i : Nat} {r : List Oper} {o : Oper} {ty : TypeId} {pos : String} {af : Array Edge} {H : AHeap} {lo : Nat} {L : List (Option ABlk)}
end
end Go.Den
/- Contracts: plans, what is wrong with them. -/
noncomputable section
namespace Go.Proofs.YtfjihdlpohljbaaGreat
open Go Go.Den
set_option maxRecDepth 100000

/-- the days on which a team is busy -/
structure Bz where
  p : Option Addr
  c : Nat
  l : List Int
def bz (x : Bz) : List Value := [.slice x.p x.l.length x.c]
structure BzAt (H : AHeap) (q : Option Addr) (busy : List Bz) : Prop where
  at_ : SlAt H 1 bz q busy
  each : ∀ x ∈ busy, SlAt H 1 i1 x.p x.l
theorem BzAt.ext {H H' : AHeap} {q : Option Addr} {busy : List Bz} (h : BzAt H q busy) (hE : Ext H H') : BzAt H' q busy := ⟨h.at_.ext hE, fun x hx => (h.each x hx).ext hE⟩
end Go.Proofs.YtfjihdlpohljbaaGreat
/- Plans: the plain law.  A search for days in lexicographic order; of more dates than there are matches the later ones are never needed. -/
noncomputable section
namespace Go.Den.Plan

/-- the search: f matches are left; C out d tells that the day d clashes with the days so far -/
def ext (D : Nat → List Int) (C : List Int → Int → Bool) : Nat → List Int → Option (List Int)
  | 0, out => some out
  | f + 1, out => (D out.length).findSome? fun d => if C out d = true then none else ext D C f (out ++ [d])

structure Valid (D : Nat → List Int) (M : Nat → Nat → Bool) (sol : List Int) : Prop where
  day : ∀ (i : Nat) d, sol[i]? = some d → d ∈ D i
  apart : ∀ (i k : Nat) d, k < i → sol[i]? = some d → sol[k]? = some d → M i k = false

section
variable {D D' : Nat → List Int} {M : Nat → Nat → Bool}

theorem Valid.nil : Valid D M [] := ⟨fun i d h => by simp at h, fun i k d _ h => by simp at h⟩
theorem Valid.take {sol : List Int} (h : Valid D M sol) (n : Nat) : Valid D M (sol.take n) := by
  have key : ∀ (i : Nat) d, (sol.take n)[i]? = some d → sol[i]? = some d := fun i d hi => by
    rw [List.getElem?_take] at hi
    split at hi
    · exact hi
    · cases hi
  exact ⟨fun i d hi => h.day i d (key i d hi), fun i k d hk h1 h2 => h.apart i k d hk (key i d h1) (key k d h2)⟩
theorem Valid.other {sol : List Int} {i : Nat} {x : Int} (h : Valid D M sol) (hx : x ∈ D i) (hn : ∀ k, k ≠ i → sol[k]? ≠ some x) : Valid D M (sol.set i x) := by
  have look : ∀ (j : Nat) d, (sol.set i x)[j]? = some d → (j = i ∧ d = x) ∨ (j ≠ i ∧ sol[j]? = some d) := fun j d hj => by
    by_cases e : j = i
    · subst e
      have hl := (List.getElem?_eq_some_iff.1 hj).1
      rw [List.length_set] at hl
      rw [List.getElem?_set_self hl] at hj
      cases hj; exact .inl ⟨rfl, rfl⟩
    · rw [List.getElem?_set_ne (fun e' => e e'.symm)] at hj
      exact .inr ⟨e, hj⟩
  refine ⟨fun j d hj => ?_, fun j k d hk h1 h2 => ?_⟩
  · rcases look j d hj with ⟨rfl, rfl⟩ | ⟨_, hj⟩
    · exact hx
    · exact h.day j d hj
  · rcases look j d h1 with ⟨rfl, rfl⟩ | ⟨n1, g1⟩
    · rcases look k d h2 with ⟨rfl, _⟩ | ⟨n2, h2⟩
      · omega
      · exact absurd h2 (hn k n2)
    · rcases look k d h2 with ⟨rfl, rfl⟩ | ⟨n2, h2⟩
      · exact absurd g1 (hn j n1)
      · exact h.apart j k d hk g1 h2
end
end Go.Den.Plan
/- Contracts: the reference's search for days. -/
noncomputable section
namespace Go.Proofs.YtfjihdlpohljbaaGreat
open Go Go.Den
set_option maxRecDepth 100000

theorem flat_i1_map : ∀ l : List Int, l.flatMap i1 = l.map I
  | [] => rfl
  | a :: r => by simp only [List.flatMap_cons, flat_i1_map r, List.map_cons]; rfl
end Go.Proofs.YtfjihdlpohljbaaGreat
/- Contracts: the program's search for days. -/
noncomputable section
namespace Go.Proofs.YtfjihdlpohljbaaGreat
open Go Go.Den
set_option maxRecDepth 100000

/-- where the days so far lie -/
def ArrAt (H0 h : AHeap) (bo be : Nat) (pa : Option Addr) (ca : Nat) (out : List Int) : Prop := (pa = none ∧ out = [] ∧ ca = 0) ∨ ∃ (ba : Nat) (arr : List Int), pa = some ⟨ba, 0, none⟩ ∧ own ba = true ∧ H0.fresh ≤ ba ∧ ba < h.fresh ∧ ba ≠ bo ∧ ba ≠ be ∧ h.get ba = some (.cells (arr.map I) 1 true false) ∧ arr.length = ca ∧ out.length ≤ ca ∧ arr.take out.length = out
structure ESt (H0 h : AHeap) (bo be : Nat) (fv : Value) (out : List Int) : Prop where
  cl : Closed h
  low : h.low ≤ h.fresh
  ext0 : Ext H0 h
  ge : H0.fresh ≤ h.fresh
  bo1 : own bo = true
  bo2 : H0.fresh ≤ bo
  bo3 : bo < h.fresh
  be2 : H0.fresh ≤ be
  be3 : be < h.fresh
  ne : be ≠ bo
  func : h.get be = some (.cells [fv] 0 false false)
  cell : ∃ pa ca, h.get bo = some (.cells [.slice pa out.length ca] 0 false false) ∧ ArrAt H0 h bo be pa ca out
theorem ESt.next {H0 h X : AHeap} {bo be : Nat} {fv : Value} {out out2 : List Int} (S : ESt H0 h bo be fv out) (hc0 : Closed H0) (hcX : Closed X) (hlX : X.low ≤ X.fresh) (hfX : h.fresh ≤ X.fresh) (hsame : ∀ b y, (b % 2 = 1 ∨ b < H0.fresh ∨ b = be) → h.get b = some y → X.get b = some y)
    (cell : ∃ pa ca, X.get bo = some (.cells [.slice pa out2.length ca] 0 false false) ∧ ArrAt H0 X bo be pa ca out2) : ESt H0 X bo be fv out2 := by
  refine ⟨hcX, hlX, fun b y hb => hsame b y ?_ (S.ext0 b y hb), Nat.le_trans S.ge hfX, S.bo1, S.bo2, Nat.lt_of_lt_of_le S.bo3 hfX, S.be2, Nat.lt_of_lt_of_le S.be3 hfX, S.ne, hsame _ _ (.inr (.inr rfl)) S.func, cell⟩
  rcases hc0.lt hb with h | h
  · exact .inl h
  · exact .inr (.inl h)
theorem ESt.lower {H0 h : AHeap} {bo be x : Nat} {fv : Value} {out : List Int} (S : ESt H0 h bo be fv out) (hx : x ≤ h.fresh) : ESt H0 { h with low := x } bo be fv out :=
  ⟨S.cl, hx, S.ext0, S.ge, S.bo1, S.bo2, S.bo3, S.be2, S.be3, S.ne, S.func, S.cell⟩
theorem ESt.step {H0 h H1 : AHeap} {bo be lo n ca : Nat} {pa : Option Addr} {L : List (Option ABlk)} {fv : Value} {out out2 : List Int} (S : ESt H0 h bo be fv out) (hc0 : Closed H0) (hc1 : Closed H1) (hf : H1.fresh = h.fresh) (hsame : ∀ b y, (b % 2 = 1 ∨ b < H0.fresh ∨ b = be) → h.get b = some y → H1.get b = some y) (hn : n = out2.length)
    (har : ArrAt H0 (ext (H1.put bo (.cells [.slice pa n ca] 0 false false)) lo L) bo be pa ca out2) : ESt H0 (ext (H1.put bo (.cells [.slice pa n ca] 0 false false)) lo L) bo be fv out2 := by
  have hlt : bo < H1.fresh := by rw [hf]; exact S.bo3
  have hcp := closed_put (x := .cells [.slice pa n ca] 0 false false) hc1 S.bo1 hlt
  have hfp : (H1.put bo (.cells [.slice pa n ca] 0 false false)).fresh = h.fresh := hf
  have hge : h.fresh ≤ (ext (H1.put bo (.cells [.slice pa n ca] 0 false false)) lo L).fresh := by rw [ext_fresh, ← hfp]; exact nb_ge _
  refine S.next hc0 (ext_closed hcp) (by show min lo (H1.put bo (.cells [.slice pa n ca] 0 false false)).fresh ≤ _; rw [hfp]; omega) hge (fun b y hb hy => ext_get_old hcp (put_ne S.bo1 (fun e => ?_) (hsame b y hb hy))) ⟨pa, ca, by rw [← hn]; exact ext_get_old hcp (put_same S.bo1), har⟩
  have h1 := own_iff.1 S.bo1
  have h2 := S.bo2
  have h3 := S.ne
  omega
theorem ESt.wrap {H0 h : AHeap} {bo be lo : Nat} {fv : Value} {out : List Int} (S : ESt H0 h bo be fv out) (hc0 : Closed H0) : ESt H0 (ext h lo []) bo be fv out := by
  obtain ⟨pa, ca, hcl, har⟩ := S.cell
  refine S.next hc0 (ext_closed S.cl) (by show min lo h.fresh ≤ _; rw [ext_fresh]; have := nb_ge (H := h) ([] : List (Option ABlk)).length; omega) (by rw [ext_fresh]; exact nb_ge _) (fun b y _ hb => ext_get_old S.cl hb) ⟨pa, ca, ext_get_old S.cl hcl, ?_⟩
  rcases har with h1 | ⟨ba, arr, h1, h2, h3, h4, h5, h6, h7, h8⟩
  · exact .inl h1
  · exact .inr ⟨ba, arr, h1, h2, h3, by rw [ext_fresh]; exact Nat.lt_of_lt_of_le h4 (nb_ge _), h5, h6, ext_get_old S.cl h7, h8⟩
theorem _root_.Go.Den.HQ.trans {a b c : AHeap} (h : HQ a b) (k : HQ b c) : HQ a c := ⟨fun x => (h.get x).trans (k.get x), h.next.trans k.next, h.low.trans k.low⟩
end Go.Proofs.YtfjihdlpohljbaaGreat
/- Contracts: the program's Postpone. -/
noncomputable section
namespace Go.Den
section
variable {P : Program} {rd : Option Nat} {nt : Nat} {ops : Array Oper} {l : EL} {ds : List Nat} {K : St → Prop} {i : Nat} {r : List Oper} {ty : TypeId} {pos : String} {af : Array Edge} {H : AHeap} {lo : Nat}
end
namespace Plan
end Plan
end Go.Den
namespace Go.Proofs.YtfjihdlpohljbaaGreat
open Go Go.Den
set_option maxRecDepth 100000

def InB (H : AHeap) (L : List (Option ABlk)) (x : Bz) : Prop := (x.p = none ∧ x.l = []) ∨ ∃ (k : Nat) (dl : List Int) (n : Nat), L[k]? = some (some (.cells (dl.map I) 1 true false)) ∧ dl ≠ [] ∧ x.p = some ⟨nb H k, 0, none⟩ ∧ x.l = dl.take n
theorem InB.keep {H : AHeap} {L L' : List (Option ABlk)} {x : Bz} (h : InB H L x) (hk : ∀ (k : Nat) (dl : List Int), dl ≠ [] → L[k]? = some (some (.cells (dl.map I) 1 true false)) → L'[k]? = some (some (.cells (dl.map I) 1 true false))) : InB H L' x := by
  rcases h with h | ⟨k, dl, n, h1, h2, h3, h4⟩
  · exact .inl h
  · exact .inr ⟨k, dl, n, hk k dl h2 h1, h2, h3, h4⟩
end Go.Proofs.YtfjihdlpohljbaaGreat
