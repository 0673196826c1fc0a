/- The symbolic layer: parts of lists, appends of parts, blocks that are replaced in drawn regions. -/
import Derived.Test.YtfjihdlpohljbaaGreatSxP
noncomputable section
namespace Go.Den

section
variable {P : Program} {l : EL} {h : AHeap}
end

section
variable {α : Type} {f : α → List Value} {w : Nat}
theorem slAt_cells {cs : List Value} (hf : ∀ x, (f x).length = w) : ∀ {l : List α} {o : Nat}, (∀ i (h : i < l.length), sliceIn cs (o + i * w) w = some (f l[i])) → sliceIn cs o (l.length * w) = some (l.flatMap f)
  | [], o, _ => by simp [sliceIn]
  | a :: r, o, hw => by
    have h0 := hw 0 (by simp)
    simp only [Nat.zero_mul, Nat.add_zero, List.getElem_cons_zero] at h0
    have hr := slAt_cells (cs := cs) hf (l := r) (o := o + w) (fun i hi => by
      have := hw (i + 1) (by simpa using hi)
      rw [show o + (i + 1) * w = o + w + i * w by rw [Nat.add_mul]; omega] at this
      simpa using this)
    simp only [sliceIn] at h0 hr ⊢
    split at h0
    · rename_i e0
      split at hr
      · rename_i e1
        simp only [Option.some.injEq] at h0 hr
        have key : (cs.drop o).take ((a :: r).length * w) = f a ++ r.flatMap f := by
          rw [List.length_cons, Nat.add_mul, Nat.one_mul, Nat.add_comm, List.take_add, h0, List.drop_drop, hr]
        rw [key]
        have hl : (f a ++ r.flatMap f).length = (a :: r).length * w := by
          rw [List.length_append, hf, len_flat hf, List.length_cons, Nat.add_mul]; omega
        rw [if_pos (by simpa using hl)]
        simp
      · cases hr
    · cases h0

/-- p points at the elements of l, in a block whose size is known -/
structure SlX {α : Type} (H : AHeap) (w : Nat) (f : α → List Value) (p : Option Addr) (c : Nat) (l : List α) : Prop where
  at_ : SlAt H w f p l
  blk : l ≠ [] → ∀ b o, p = some ⟨b, o, none⟩ → ∃ cs ro, H.get b = some (.cells cs w false ro)
  cap : l.length ≤ c
  nil : p = none → l.length = 0 ∧ c = 0
  spot : ∀ a, p = some a → a.spot = none
theorem SlX.ext {H H' : AHeap} {p : Option Addr} {c : Nat} {l : List α} (h : SlX H w f p c l) (hE : Ext H H') : SlX H' w f p c l :=
  ⟨h.at_.ext hE, fun hne b o hp => by
    obtain ⟨cs, ro, hg⟩ := h.blk hne b o hp
    exact ⟨cs, ro, hE _ _ hg⟩, h.cap, h.nil, h.spot⟩
end

section
variable {P : Program} {l : EL} {h : AHeap} {α : Type} {f : α → List Value} {w : Nat}
/-- where the rest of a list begins -/
def fromO (o c i w : Nat) : Nat := if c = i then o else o + i * w
theorem part_from {cs : List Value} {l : List α} {o c i : Nat} (hf : ∀ x, (f x).length = w) (hw : ∀ j (h : j < l.length), sliceIn cs (o + j * w) w = some (f l[j])) (hc : l.length ≤ c) : sliceIn cs (fromO o c i w) ((l.length - i) * w) = some ((l.drop i).flatMap f) := by
  by_cases hd : c = i
  · have h0 : l.length - i = 0 := by omega
    have e : l.drop i = [] := by rw [List.drop_eq_nil_iff]; omega
    rw [h0, e]; simp [sliceIn]
  · have := slAt_cells (f := f) (w := w) hf (l := l.drop i) (o := o + i * w) (cs := cs) (fun j hj => by
      rw [List.length_drop] at hj
      rw [List.getElem_drop]
      have := hw (i + j) (by omega)
      rw [show o + i * w + j * w = o + (i + j) * w by rw [Nat.add_mul]; omega]; exact this)
    rw [List.length_drop] at this
    unfold fromO
    rw [if_neg hd]; exact this
end

/-! ### drawn regions -/
section
variable {P : Program} {rd : Option Nat} {nt : Nat} {ops : Array Oper} {l : EL} {ds : List Nat} {K : St → Prop} {i : Nat} {r : List Oper} {ty : TypeId} {pos : String} {af : Array Edge} {H : AHeap} {lo : Nat} {L0 : List (Option ABlk)} {ow : List Nat} {N : List ABlk}
theorem opT_ofGC {o : Oper} {d : Nat} {c : Call} {h h' : AHeap} {v : Value} {ad : List Nat} {f : FuncId} {args : List Value} {j t : Nat} {w : Bool} (ho : ops[i]? = some o) (e : o = ⟨some d, .call c, ty, pos, af, some (j, w)⟩) (hg : gdst ops j = some t) (hl : lk l t = some (.bool w)) (ht : tgtE l c = some (f, args)) (hc : Ret P f args h v h') (hd : Nat.blt d nt = true) (ha : ∀ x ∈ ad, x ∉ reads ops o) :
    OpT P rd nt ops i ⟨ofA (fl ad l), ds, h⟩ (fun s => s = ⟨ofA (upd o.dst v (fl ad l)), ds, h'⟩) := by
  subst e
  refine opT_call ho (s := ⟨ofA (fl ad l), ds, h⟩) (by rw [want_fl rfl hg hl ha]; simp) rfl (tgt_fl rfl ht ha) hc fun u H' hm => ?_
  obtain ⟨rfl, rfl⟩ := hm
  exact ⟨_, put_upd hd, rfl⟩
/-- a call under a condition -/
theorem sd_gcall {d : Nat} {c : Call} {v : Value} {f : FuncId} {args : List Value} {j t : Nat} {w : Bool} (hg : gdst ops j = some t) (hl : lk l t = some (.bool w)) (ht : tgtE l c = some (f, args)) (hc : Ret P f args (ext H lo (L0 ++ N.map fun _ => none)) v (ext H lo (L0 ++ N.map fun _ => none))) (hd : Nat.blt d nt = true)
    (hk : SeqD P rd nt ops r (i + 1) ds ((d, v) :: l) H lo L0 ow N K) : SeqD P rd nt ops (⟨some d, .call c, ty, pos, af, some (j, w)⟩ :: r) i ds l H lo L0 ow N K :=
  sd_ho fun ho => sd_none rfl (mask_noneA _) (fun _ ha => opT_ofGC ho rfl hg hl ht hc hd ha) hk
end
section
variable {P : Program} {rd : Option Nat} {nt : Nat} {ops : Array Oper} {l : EL} {ds : List Nat} {K : St → Prop} {i : Nat} {r : List Oper} {ty : TypeId} {pos : String} {af : Array Edge} {H : AHeap} {lo : Nat} {L0 : List (Option ABlk)} {ow : List Nat} {N : List (Option ABlk)}
end

/-! ### joins of ways that leave different heaps -/
structure JX {α : Type} (E : α → EL) (ds : List Nat) (hh : α → AHeap) (J : α → Prop) (s : St) : Prop where
  out : ∃ a, J a ∧ JP (E a) ds (hh a) s
section
variable {P : Program} {rd : Option Nat} {nt : Nat} {ops : Array Oper} {l : EL} {ds : List Nat} {i : Nat} {r : List Oper} {H : AHeap} {lo : Nat} {L0 : List (Option ABlk)} {ow : List Nat} {N : List ABlk}
  {Qn : St → Prop} {Qe : Nat → St → Prop} {Qr : St → Prop} {α : Type} {E : α → EL} {hh : α → AHeap} {J : α → Prop}
theorem jx_of (a : α) {h : AHeap} (hJ : J a) (hs : Sub (E a) l) (e : h = hh a) : JX E ds hh J ⟨ofA l, ds, h⟩ := ⟨a, hJ, by subst e; exact jp_of hs⟩
theorem jx_ct {b : Code} (h2 : ∀ a, J a → CT P rd nt b ⟨ofA (E a), ds, hh a⟩ Qn Qe Qr) (s' : St) (hj : JX E ds hh J s') : CT P rd nt b s' Qn Qe Qr := by
  obtain ⟨a, hJ, h⟩ := hj.out
  exact jp_ct (h2 a hJ) s' h
theorem seq_JX {b : Code} {s : St} (E : α → EL) (hh : α → AHeap) (J : α → Prop) (h1 : SeqL P rd nt ops r i s (JX E ds hh J)) (h2 : ∀ a, J a → CT P rd nt b ⟨ofA (E a), ds, hh a⟩ Qn Qe Qr) : SeqL P rd nt ops r i s (fun s' => CT P rd nt b s' Qn Qe Qr) :=
  ⟨seqL0_mono (jx_ct h2) h1.out⟩
end
end Go.Den
/- The symbolic layer: appends of nothing, ends of functions. -/
noncomputable section
namespace Go.Den

section
variable {P : Program} {l : EL} {h : AHeap}
end

section
variable {P : Program} {l : EL} {H : AHeap} {lo : Nat} {L : List (Option ABlk)}
/-- what lay before is the result -/
theorem fin_keep {Q : Value → AHeap → Prop} {rs : Array ResultVar} {vs : List Value} (hc : Closed H) (hr : resE l rs.toList = some vs) (hv : renV (renOf H []) 8 (packA vs) = some (packA vs)) (hq : Q (packA vs) H) : Fin P rs H Q ⟨ofA l, [], ext H lo L⟩ :=
  ⟨⟨_, vs, packA vs, H, rfl, resE_A hr, tidy_of (H0 := H) (ys := []) (ren_ext hc (fun _ _ h => ext_get_old hc h) (l := []) .nil (by simp) rfl (by simp)) hv, hq⟩⟩
theorem renOf_old {b : Nat} {lb : List Nat} (h : b % 2 = 1 ∨ b < H.fresh) : renOf H lb b = some b := if_pos h
end
section
end
end Go.Den
