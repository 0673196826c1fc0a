/- The symbolic layer: lists in maps that grow; ranges over maps whose iterator lies anywhere. -/
import Derived.Test.YtflbffhahoblfaaGreatDoorSxQ
import Derived.Test.YtflbffhahoblfaaGreatDoorSxM
import Derived.Test.YtflbffhahoblfaaGreatDoorSxP
import Derived.Test.YtflbffhahoblfaaGreatDoorFnA
import Derived.Test.YtflbffhahoblfaaGreatDoorLaid
noncomputable section
namespace Go.Den
section
variable {P : Program} {rd : Option Nat} {nt : Nat} {ops : Array Oper} {l : EL} {ds : List Nat} {K : St → Prop} {i : Nat} {r : List Oper} {o : Oper} {ty : TypeId} {pos : String} {af : Array Edge} {H : AHeap} {lo : Nat} {L : List (Option ABlk)} {L0 : List (Option ABlk)} {ow : List Nat} {N : List ABlk}
theorem Lst.move {α : Type} {m k0 : Nat} {f : α → List Value} {lst : List α} {v : Value} {L' : List (Option ABlk)} (h : Lst H L m f k0 v lst) (hs : lst ≠ [] → ∀ j : Nat, L[j]? = some (some (ABlk.cells (lst.flatMap f) m true false)) → L'[j]? = some (some (ABlk.cells (lst.flatMap f) m true false))) : Lst H L' m f k0 v lst := by
  rcases h.out with ⟨e1, e2⟩ | ⟨hne, k, h1, e, h2⟩
  · exact ⟨.inl ⟨e1, e2⟩⟩
  · exact ⟨.inr ⟨hne, k, h1, e, hs hne k h2⟩⟩
end
end Go.Den
/- The symbolic layer: parts of lists, appends of parts, blocks that are replaced in drawn regions. -/
noncomputable section
namespace Go.Den
section
variable {P : Program} {l : EL} {h : AHeap}
end
section
variable {α : Type} {f : α → List Value} {w : Nat}
theorem slAt_cells {cs : List Value} (hf : ∀ x, (f x).length = w) : ∀ {l : List α} {o : Nat}, (∀ i (h : i < l.length), sliceIn cs (o + i * w) w = some (f l[i])) → sliceIn cs o (l.length * w) = some (l.flatMap f)
  | [], o, _ => by simp [sliceIn]
  | a :: r, o, hw => by
    have h0 := hw 0 (by simp)
    simp only [Nat.zero_mul, Nat.add_zero, List.getElem_cons_zero] at h0
    have hr := slAt_cells (cs := cs) hf (l := r) (o := o + w) (fun i hi => by
      have := hw (i + 1) (by simpa using hi)
      rw [show o + (i + 1) * w = o + w + i * w by rw [Nat.add_mul]; omega] at this
      simpa using this)
    simp only [sliceIn] at h0 hr ⊢
    split at h0
    · rename_i e0
      split at hr
      · rename_i e1
        simp only [Option.some.injEq] at h0 hr
        have key : (cs.drop o).take ((a :: r).length * w) = f a ++ r.flatMap f := by
          rw [List.length_cons, Nat.add_mul, Nat.one_mul, Nat.add_comm, List.take_add, h0, List.drop_drop, hr]
        rw [key]
        have hl : (f a ++ r.flatMap f).length = (a :: r).length * w := by
          rw [List.length_append, hf, len_flat hf, List.length_cons, Nat.add_mul]; omega
        rw [if_pos (by simpa using hl)]
        simp
      · cases hr
    · cases h0
structure SlX {α : Type} (H : AHeap) (w : Nat) (f : α → List Value) (p : Option Addr) (c : Nat) (l : List α) : Prop where
  at_ : SlAt H w f p l
  blk : l ≠ [] → ∀ b o, p = some ⟨b, o, none⟩ → ∃ cs ro, H.get b = some (.cells cs w false ro)
  cap : l.length ≤ c
  nil : p = none → l.length = 0 ∧ c = 0
  spot : ∀ a, p = some a → a.spot = none
theorem SlX.ext {H H' : AHeap} {p : Option Addr} {c : Nat} {l : List α} (h : SlX H w f p c l) (hE : Ext H H') : SlX H' w f p c l :=
  ⟨h.at_.ext hE, fun hne b o hp => by
    obtain ⟨cs, ro, hg⟩ := h.blk hne b o hp
    exact ⟨cs, ro, hE _ _ hg⟩, h.cap, h.nil, h.spot⟩
end
section
variable {P : Program} {l : EL} {h : AHeap} {α : Type} {f : α → List Value} {w : Nat}
def fromO (o c i w : Nat) : Nat := if c = i then o else o + i * w
theorem part_from {cs : List Value} {l : List α} {o c i : Nat} (hf : ∀ x, (f x).length = w) (hw : ∀ j (h : j < l.length), sliceIn cs (o + j * w) w = some (f l[j])) (hc : l.length ≤ c) : sliceIn cs (fromO o c i w) ((l.length - i) * w) = some ((l.drop i).flatMap f) := by
  by_cases hd : c = i
  · have h0 : l.length - i = 0 := by omega
    have e : l.drop i = [] := by rw [List.drop_eq_nil_iff]; omega
    rw [h0, e]; simp [sliceIn]
  · have := slAt_cells (f := f) (w := w) hf (l := l.drop i) (o := o + i * w) (cs := cs) (fun j hj => by
      rw [List.length_drop] at hj
      rw [List.getElem_drop]
      have := hw (i + j) (by omega)
      rw [show o + i * w + j * w = o + (i + j) * w by rw [Nat.add_mul]; omega]; exact this)
    rw [List.length_drop] at this
    unfold fromO
    rw [if_neg hd]; exact this
end
/-! ### drawn regions -/
section
variable {P : Program} {rd : Option Nat} {nt : Nat} {ops : Array Oper} {l : EL} {ds : List Nat} {K : St → Prop} {i : Nat} {r : List Oper} {ty : TypeId} {pos : String} {af : Array Edge} {H : AHeap} {lo : Nat} {L0 : List (Option ABlk)} {ow : List Nat} {N : List ABlk}
theorem opT_ofGC {o : Oper} {d : Nat} {c : Call} {h h' : AHeap} {v : Value} {ad : List Nat} {f : FuncId} {args : List Value} {j t : Nat} {w : Bool} (ho : ops[i]? = some o) (e : o = ⟨some d, .call c, ty, pos, af, some (j, w)⟩) (hg : gdst ops j = some t) (hl : lk l t = some (.bool w)) (ht : tgtE l c = some (f, args)) (hc : Ret P f args h v h') (hd : Nat.blt d nt = true) (ha : ∀ x ∈ ad, x ∉ reads ops o) :
    OpT P rd nt ops i ⟨ofA (fl ad l), ds, h⟩ (fun s => s = ⟨ofA (upd o.dst v (fl ad l)), ds, h'⟩) := by
  subst e
  refine opT_call ho (s := ⟨ofA (fl ad l), ds, h⟩) (by rw [want_fl rfl hg hl ha]; simp) rfl (tgt_fl rfl ht ha) hc fun u H' hm => ?_
  obtain ⟨rfl, rfl⟩ := hm
  exact ⟨_, put_upd hd, rfl⟩
theorem sd_gcall {d : Nat} {c : Call} {v : Value} {f : FuncId} {args : List Value} {j t : Nat} {w : Bool} (hg : gdst ops j = some t) (hl : lk l t = some (.bool w)) (ht : tgtE l c = some (f, args)) (hc : Ret P f args (ext H lo (L0 ++ N.map fun _ => none)) v (ext H lo (L0 ++ N.map fun _ => none))) (hd : Nat.blt d nt = true)
    (hk : SeqD P rd nt ops r (i + 1) ds ((d, v) :: l) H lo L0 ow N K) : SeqD P rd nt ops (⟨some d, .call c, ty, pos, af, some (j, w)⟩ :: r) i ds l H lo L0 ow N K :=
  sd_ho fun ho => sd_none rfl (mask_noneA _) (fun _ ha => opT_ofGC ho rfl hg hl ht hc hd ha) hk
end
section
variable {P : Program} {rd : Option Nat} {nt : Nat} {ops : Array Oper} {l : EL} {ds : List Nat} {K : St → Prop} {i : Nat} {r : List Oper} {ty : TypeId} {pos : String} {af : Array Edge} {H : AHeap} {lo : Nat} {L0 : List (Option ABlk)} {ow : List Nat} {N : List (Option ABlk)}
end
/-! ### joins of ways that leave different heaps -/
structure JX {α : Type} (E : α → EL) (ds : List Nat) (hh : α → AHeap) (J : α → Prop) (s : St) : Prop where
  out : ∃ a, J a ∧ JP (E a) ds (hh a) s
section
variable {P : Program} {rd : Option Nat} {nt : Nat} {ops : Array Oper} {l : EL} {ds : List Nat} {i : Nat} {r : List Oper} {H : AHeap} {lo : Nat} {L0 : List (Option ABlk)} {ow : List Nat} {N : List ABlk}
  {Qn : St → Prop} {Qe : Nat → St → Prop} {Qr : St → Prop} {α : Type} {E : α → EL} {hh : α → AHeap} {J : α → Prop}
theorem jx_of (a : α) {h : AHeap} (hJ : J a) (hs : Sub (E a) l) (e : h = hh a) : JX E ds hh J ⟨ofA l, ds, h⟩ := ⟨a, hJ, by subst e; exact jp_of hs⟩
theorem jx_hq (a : α) {h : AHeap} (hJ : J a) (hs : Sub (E a) l) (q : HQ h (hh a)) : JX E ds hh J ⟨ofA l, ds, h⟩ := ⟨a, hJ, ⟨⟨l, h, rfl, hs, q⟩⟩⟩
theorem jx_ct {b : Code} (h2 : ∀ a, J a → CT P rd nt b ⟨ofA (E a), ds, hh a⟩ Qn Qe Qr) (s' : St) (hj : JX E ds hh J s') : CT P rd nt b s' Qn Qe Qr := by
  obtain ⟨a, hJ, h⟩ := hj.out
  exact jp_ct (h2 a hJ) s' h
end
end Go.Den
/- The symbolic layer: appends of nothing, ends of functions. -/
noncomputable section
namespace Go.Den
section
variable {P : Program} {l : EL} {h : AHeap}
end
section
variable {P : Program} {l : EL} {H : AHeap} {lo : Nat} {L : List (Option ABlk)}
theorem renOf_old {b : Nat} {lb : List Nat} (h : b % 2 = 1 ∨ b < H.fresh) : renOf H lb b = some b := if_pos h
end
section
end
end Go.Den
/- The symbolic layer: appends in place, blocks of the caller that are dropped or turned. -/
noncomputable section
namespace Go.Den
section
variable {P : Program} {l : EL} {h : AHeap}
end
section
variable {H : AHeap} {lo : Nat} {L : List (Option ABlk)}
theorem kill_get {b c : Nat} (hb : own b = true) : (H.kill b).get c = if c = b then none else H.get c := AHeap.get_kill _ _ _ hb
end
section
variable {P : Program} {rd : Option Nat} {nt : Nat} {ops : Array Oper} {l : EL} {ds : List Nat} {K : St → Prop} {i : Nat} {r : List Oper} {o : Oper} {ty : TypeId} {pos : String} {af : Array Edge} {H : AHeap} {lo : Nat} {L : List (Option ABlk)}
end
end Go.Den
/- Contracts: races, pairs, searches in lists of numbers, comparisons. -/
noncomputable section
namespace Go.Proofs.YtflbffhahoblfaaGreatDoor
open Go Go.Den
set_option maxRecDepth 10000
abbrev p2 (p : Int × Int) : List Value := [I p.1, I p.2]
theorem isNaN_c {H : AHeap} {n : Int} : Ret Tryz.prog 87 [I n] H (.bool false) H := by
  refine fn_start Tryz.func87 rfl rfl rfl fun hc => ?_
  apply ct_seq
  apply ct_region
  apply seq_plain; exact do_assign rfl; exact rfl
  apply seq_nil
  apply ct_seq
  apply ct_region
  iterate 2 (apply seq_plain; exact do_move rfl; exact rfl)
  apply seq_plain; exact do_binInt rfl rfl rfl trivial; exact rfl
  apply seq_plain; exact do_assign rfl; exact rfl
  apply seq_nil
  apply ct_ret
  refine fin_flat hc rfl rfl ⟨?_, rfl⟩
  have : (n != n) = false := by simp
  show Value.bool (n != n) = _
  rw [this]
def cmpI (a b : Int) : Int := if a < b then -1 else if a > b then 1 else 0
theorem compare_c {H : AHeap} {a b : Int} : Ret Tryz.prog 42 [I a, I b] H (I (cmpI a b)) H := by
  refine fn_start Tryz.func42 rfl rfl rfl fun hc => ?_
  apply ct_seq
  apply ct_region
  apply seq_plain; exact do_assign rfl; exact rfl
  apply seq_nil
  apply ct_seq
  apply ct_region
  apply seq_plain; exact do_move rfl; exact rfl
  apply seq_call (ht := rfl); exact isNaN_c; exact rfl
  apply seq_plain; exact do_assign rfl; exact rfl
  apply seq_nil
  apply ct_seq
  apply ct_region
  apply seq_plain; exact do_move rfl; exact rfl
  apply seq_call (ht := rfl); exact isNaN_c; exact rfl
  apply seq_plain; exact do_assign rfl; exact rfl
  apply seq_nil
  iterate 2 (apply ct_seq)
  apply ct_region
  apply seq_plain; exact do_move rfl; exact rfl
  apply seq_nil
  refine ct_cond_f rfl rfl ?_
  apply ct_skip
  iterate 2 (apply ct_seq)
  apply ct_region
  apply seq_plain; exact do_move rfl; exact rfl
  apply seq_nil
  refine ct_cond_f rfl rfl ?_
  apply ct_skip
  iterate 2 (apply ct_seq)
  apply ct_region
  iterate 2 (apply seq_plain; exact do_move rfl; exact rfl)
  apply seq_plain; exact do_binInt rfl rfl rfl trivial; exact rfl
  apply seq_nil
  refine ct_cond rfl (fun h1 => ?_) (fun h1 => ?_)
  · simp only [decide_eq_true_eq] at h1
    apply ct_seq
    apply ct_region
    apply seq_plain; exact do_assign rfl; exact rfl
    apply seq_nil
    apply ct_ret
    refine fin_flat hc rfl rfl ⟨?_, rfl⟩
    simp [packA, cmpI, h1]
  · simp only [decide_eq_false_iff_not] at h1
    apply ct_skip
    iterate 2 (apply ct_seq)
    apply ct_region
    iterate 2 (apply seq_plain; exact do_move rfl; exact rfl)
    apply seq_plain; exact do_binInt rfl rfl rfl trivial; exact rfl
    apply seq_nil
    refine ct_cond rfl (fun h2 => ?_) (fun h2 => ?_)
    · simp only [decide_eq_true_eq] at h2
      apply ct_seq
      apply ct_region
      apply seq_plain; exact do_assign rfl; exact rfl
      apply seq_nil
      apply ct_ret
      refine fin_flat hc rfl rfl ⟨?_, rfl⟩
      simp [packA, cmpI, h1, h2]
    · simp only [decide_eq_false_iff_not] at h2
      apply ct_skip
      apply ct_seq
      apply ct_region
      apply seq_plain; exact do_assign rfl; exact rfl
      apply seq_nil
      apply ct_ret
      refine fin_flat hc rfl rfl ⟨?_, rfl⟩
      have h2' : ¬ b < a := h2
      simp [packA, cmpI, h1, h2']
end Go.Proofs.YtflbffhahoblfaaGreatDoor
/- Contracts: plans, what is wrong with them. -/
noncomputable section
namespace Go.Proofs.YtflbffhahoblfaaGreatDoor
open Go Go.Den
set_option maxRecDepth 100000
structure Bz where
  p : Option Addr
  c : Nat
  l : List Int
def bz (x : Bz) : List Value := [.slice x.p x.l.length x.c]
structure BzAt (H : AHeap) (q : Option Addr) (busy : List Bz) : Prop where
  at_ : SlAt H 1 bz q busy
  each : ∀ x ∈ busy, SlAt H 1 i1 x.p x.l
theorem BzAt.ext {H H' : AHeap} {q : Option Addr} {busy : List Bz} (h : BzAt H q busy) (hE : Ext H H') : BzAt H' q busy := ⟨h.at_.ext hE, fun x hx => (h.each x hx).ext hE⟩
end Go.Proofs.YtflbffhahoblfaaGreatDoor
/- Plans: the plain law.  A search for days in lexicographic order; of more dates than there are matches the later ones are never needed. -/
noncomputable section
namespace Go.Den.Plan
def ext (D : Nat → List Int) (C : List Int → Int → Bool) : Nat → List Int → Option (List Int)
  | 0, out => some out
  | f + 1, out => (D out.length).findSome? fun d => if C out d = true then none else ext D C f (out ++ [d])
structure Valid (D : Nat → List Int) (M : Nat → Nat → Bool) (sol : List Int) : Prop where
  day : ∀ (i : Nat) d, sol[i]? = some d → d ∈ D i
  apart : ∀ (i k : Nat) d, k < i → sol[i]? = some d → sol[k]? = some d → M i k = false
section
variable {D D' : Nat → List Int} {M : Nat → Nat → Bool}
theorem Valid.nil : Valid D M [] := ⟨fun i d h => by simp at h, fun i k d _ h => by simp at h⟩
theorem Valid.take {sol : List Int} (h : Valid D M sol) (n : Nat) : Valid D M (sol.take n) := by
  have key : ∀ (i : Nat) d, (sol.take n)[i]? = some d → sol[i]? = some d := fun i d hi => by
    rw [List.getElem?_take] at hi
    split at hi
    · exact hi
    · cases hi
  exact ⟨fun i d hi => h.day i d (key i d hi), fun i k d hk h1 h2 => h.apart i k d hk (key i d h1) (key k d h2)⟩
theorem Valid.other {sol : List Int} {i : Nat} {x : Int} (h : Valid D M sol) (hx : x ∈ D i) (hn : ∀ k, k ≠ i → sol[k]? ≠ some x) : Valid D M (sol.set i x) := by
  have look : ∀ (j : Nat) d, (sol.set i x)[j]? = some d → (j = i ∧ d = x) ∨ (j ≠ i ∧ sol[j]? = some d) := fun j d hj => by
    by_cases e : j = i
    · subst e
      have hl := (List.getElem?_eq_some_iff.1 hj).1
      rw [List.length_set] at hl
      rw [List.getElem?_set_self hl] at hj
      cases hj; exact .inl ⟨rfl, rfl⟩
    · rw [List.getElem?_set_ne (fun e' => e e'.symm)] at hj
      exact .inr ⟨e, hj⟩
  refine ⟨fun j d hj => ?_, fun j k d hk h1 h2 => ?_⟩
  · rcases look j d hj with ⟨rfl, rfl⟩ | ⟨_, hj⟩
    · exact hx
    · exact h.day j d hj
  · rcases look j d h1 with ⟨rfl, rfl⟩ | ⟨n1, g1⟩
    · rcases look k d h2 with ⟨rfl, _⟩ | ⟨n2, h2⟩
      · omega
      · exact absurd h2 (hn k n2)
    · rcases look k d h2 with ⟨rfl, rfl⟩ | ⟨n2, h2⟩
      · exact absurd g1 (hn j n1)
      · exact h.apart j k d hk g1 h2
end
end Go.Den.Plan
/- Contracts: the reference's search for days. -/
noncomputable section
namespace Go.Proofs.YtflbffhahoblfaaGreatDoor
open Go Go.Den
set_option maxRecDepth 100000
theorem flat_i1_map : ∀ l : List Int, l.flatMap i1 = l.map I
  | [] => rfl
  | a :: r => by simp only [List.flatMap_cons, flat_i1_map r, List.map_cons]; rfl
end Go.Proofs.YtflbffhahoblfaaGreatDoor
