/- Plain law: tables. -/
import Derived.Test.YtfjihdlpohljbaaGreatSrL
import Derived.Test.YtfjihdlpohljbaaGreatSxK
import Derived.Laws.RangeString
import Derived.Laws.RangeAny
noncomputable section
namespace Go.Proofs.YtfjihdlpohljbaaGreat
open Go Go.Den
set_option maxRecDepth 100000
structure Ma where
  home : Int
  away : Int
  fr : Int
  ag : Int
  kind : ByteArray
structure Ru where
  win : Int
  draw : Int
  loss : Int
  frames : Int
structure Rw where
  team : Int
  played : Int
  won : Int
  drawn : Int
  lost : Int
  fr : Int
  ag : Int
  pts : Int
  rank : Int
/-! ### what holds of each row -/
/-! ### sums over all rows -/
/-! ### how teams are compared -/
abbrev Fg := Int × Int × Int
/-! ### the table -/
end Go.Proofs.YtfjihdlpohljbaaGreat
/- The symbolic layer: sets are asked, strings are gone through. -/
noncomputable section
namespace Go.Den
section
variable {P : Program} {α : Type} [DecidableEq α] {f : α → Value} {kt : TypeId} {l : EL} {h : AHeap}
def zeroOf (P : Program) (t : TypeId) : Option Value := match tyOf P t with
  | some ti => match ti.zero with
    | some z => if z.cells.toList.all constOk then some z else none
    | none => none
  | none => none
theorem zeroV_of {t : TypeId} {v : Value} (h : zeroOf P t = some v) : zeroV (ctxOf P) t = some v := by
  unfold zeroOf at h
  split at h
  · rename_i ti hti
    unfold zeroV
    rw [ctx_ty hti]
    exact h
  · cases h
theorem do_rangeStr {t : TypeId} {x : Operand} {s : ByteArray} (hx : ev l x = some (.string s)) (ht : strOf P t = true) : Does P l (.range t x) h (.pointer (some ⟨h.fresh, 0, none⟩)) (h.add (.siter s 0)) := by
  unfold strOf at ht
  split at ht
  · rename_i ti hti
    split at ht
    · rename_i hk
      refine ⟨?_⟩
      simp only [opA, evalA_ofA, hx, rangeA, ctx_ty hti, hk]; rfl
    · cases ht
  · cases ht
theorem do_nextStr {it : Operand} {r pos : Nat} {s : ByteArray} (hi : ev l it = some (.pointer (some ⟨r, 0, none⟩))) (hg : h.get r = some (.siter s pos)) (ho : own r = true) (hp : pos < s.size) :
    Does P l (.next it true) h (.tuple #[.bool true, .int .i64 pos, .int .i32 (Utf8.decode s pos).1]) (h.put r (.siter s (pos + (Utf8.decode s pos).2))) := by
  refine ⟨?_⟩
  simp only [opA, evalA_ofA, hi, nextA, hg, ho]
  simp [hp]; rfl
theorem do_nextEnd {it : Operand} {r pos : Nat} {s : ByteArray} (hi : ev l it = some (.pointer (some ⟨r, 0, none⟩))) (hg : h.get r = some (.siter s pos)) (ho : own r = true) (hp : ¬ pos < s.size) :
    Does P l (.next it true) h (.tuple #[.bool false]) h := by
  refine ⟨?_⟩
  simp only [opA, evalA_ofA, hi, nextA, hg, ho]
  simp [hp]; rfl
def byteI (s : ByteArray) (i : Nat) : Int := ((s.data.toList[i]?.map fun b => ((b.toNat : Nat) : Int))).getD 0
theorem byte_at {s : ByteArray} {i : Nat} (h : i < s.size) : ∃ b : UInt8, s.data.toList[i]? = some b ∧ s[i]'h = b ∧ byteI s i = ((b.toNat : Nat) : Int) := by
  have hl : i < s.data.toList.length := by simpa using h
  refine ⟨s.data.toList[i], List.getElem?_eq_getElem hl, by simp; rfl, ?_⟩
  unfold byteI
  rw [List.getElem?_eq_getElem hl]; rfl
theorem bytes_eq {a b : ByteArray} : byteL a.data.toList b.data.toList = decide (a = b) := by
  rw [byteL_eq, Bool.eq_iff_iff, beq_iff_eq, decide_eq_true_iff]
  constructor
  · intro e
    cases a; cases b
    simp only [ByteArray.mk.injEq]
    exact Array.toList_inj.1 e
  · intro e; rw [e]
end
section
variable {P : Program} {rd : Option Nat} {nt : Nat} {ops : Array Oper} {l : EL} {ds : List Nat} {K : St → Prop} {i : Nat} {r : List Oper} {ty : TypeId} {pos : String} {af : Array Edge} {H : AHeap} {lo : Nat}
theorem seq_putV [PC P] {o : Oper} {L : List (Option ABlk)} {d k : Nat} {op : Op} {v : Value} {x : ABlk} (hc : Closed H) (hlt : k < L.length) (hop : Does P l op (ext H lo L) v ((ext H lo L).put (nb H k) x)) (hd : Nat.blt d nt = true)
    (hk : SeqL P rd nt ops (o :: r) (i + 1) ⟨ofA ((d, v) :: l), ds, ext H lo (L.set k (some x))⟩ K) : SeqL P rd nt ops (⟨some d, op, ty, pos, af, none⟩ :: o :: r) i ⟨ofA l, ds, ext H lo L⟩ K :=
  seq_plain hop hd (seqL_to sub_refl (ext_put hc hlt x) (by simp) hk)
end
end Go.Den
namespace Go.Proofs.YtfjihdlpohljbaaGreat
open Go Go.Den
set_option maxRecDepth 100000
theorem tyStr : ∃ ti, (ctxOf Tryz.prog).ty.get 9 = some ti ∧ ti.und = .string := ⟨_, ctx_ty rfl, rfl⟩
abbrev strV (s : ByteArray) : Value := .string s
theorem keyStr : KeyOk Tryz.prog 9 strV := by
  obtain ⟨ti, h1, h2⟩ := tyStr
  refine ⟨fun a => ?_, fun a => ?_, fun a b => ?_, fun a => ?_⟩
  · simp [keyOk, chkV, h1, h2, flatC, Value.cells]
  · simp [flatC, Value.cells]
  · simp only [eqV, h1, h2, bytes_eq]
  · simp [sameKey, eqFlat, byteL_eq]
end Go.Proofs.YtfjihdlpohljbaaGreat
/- The symbolic layer: blocks of the caller that are turned; labels and scopes. -/
noncomputable section
namespace Go.Den
structure Puts (H H1 : AHeap) : Prop where
  next : H1.next = H.next
  odd : ∀ b, b % 2 = 1 → H1.get b = H.get b
  ge : ∀ b, b % 2 = 0 → H.fresh ≤ b → H1.get b = none
  chg : ∀ b y, b % 2 = 0 → b < H.fresh → H1.get b = some y → H.get b = some y ∨ ∃ cs z s ro, y = .cells cs z s ro ∧ cs.all (flatD 8) = true
  low : H1.low ≤ H.low
  lows : ∀ b, b < H.fresh → b < H1.low → H1.get b = H.get b
theorem Puts.refl {H : AHeap} (hc : Closed H) : Puts H H := ⟨rfl, fun _ _ => rfl, hc, fun _ _ _ _ h => .inl h, Nat.le_refl _, fun _ _ _ => rfl⟩
theorem Puts.closed {H H1 : AHeap} (h : Puts H H1) : Closed H1 := fun b h1 h2 => h.ge b h1 (by simp only [AHeap.fresh, h.next] at h2 ⊢; exact h2)
theorem Puts.fresh {H H1 : AHeap} (h : Puts H H1) : H1.fresh = H.fresh := by simp only [AHeap.fresh, h.next]
theorem Puts.put {H H1 : AHeap} (h : Puts H H1) {b : Nat} (hb : own b = true) (hlt : b < H.fresh) {cs : List Value} {z : Nat} {s ro : Bool} (hf : cs.all (flatD 8) = true) : Puts H (H1.put b (.cells cs z s ro)) := by
  refine ⟨h.next, fun c hc => ?_, fun c h1 h2 => ?_, fun c y h1 h2 hy => ?_, Nat.le_trans (Nat.min_le_left _ _) h.low, fun c h1 h2 => ?_⟩
  · rw [AHeap.get_put _ _ _ _ hb, if_neg (by intro e; subst e; rw [own_iff] at hb; omega)]; exact h.odd c hc
  · rw [AHeap.get_put _ _ _ _ hb, if_neg (by omega)]; exact h.ge c h1 h2
  · rw [AHeap.get_put _ _ _ _ hb] at hy
    split at hy
    · cases hy; exact .inr ⟨_, _, _, _, rfl, hf⟩
    · exact h.chg c y h1 h2 hy
  · have h2' : c < min H1.low b := h2
    rw [AHeap.get_put _ _ _ _ hb, if_neg (by omega)]
    exact h.lows c h1 (by omega)
theorem put_get {H : AHeap} {b c : Nat} {x : ABlk} (hb : own b = true) : (H.put b x).get c = if c = b then some x else H.get c := AHeap.get_put _ _ _ _ hb
theorem put_same {H : AHeap} {b : Nat} {x : ABlk} (hb : own b = true) : (H.put b x).get b = some x := by rw [put_get hb, if_pos rfl]
theorem closed_put {H : AHeap} (hc : Closed H) {b : Nat} {x : ABlk} (hb : own b = true) (hlt : b < H.fresh) : Closed (H.put b x) := fun c h1 h2 => by
  have h2' : H.fresh ≤ c := h2
  rw [put_get hb, if_neg (by omega)]; exact hc c h1 h2'
section
variable {P : Program} {rd : Option Nat} {nt : Nat} {ops : Array Oper} {l : EL} {ds : List Nat} {K : St → Prop} {i : Nat} {r : List Oper} {o : Oper} {ty : TypeId} {pos : String} {af : Array Edge} {H : AHeap} {lo : Nat} {L : List (Option ABlk)}
  {Qn : St → Prop} {Qe : Nat → St → Prop} {Qr : St → Prop}
end
section
variable {P : Program} {l : EL} {h : AHeap}
end
end Go.Den
/- The symbolic layer: parts of lists, appends of parts, blocks that are replaced in drawn regions. -/
noncomputable section
namespace Go.Den
section
variable {P : Program} {l : EL} {h : AHeap}
end
section
variable {α : Type} {f : α → List Value} {w : Nat}
theorem slAt_cells {cs : List Value} (hf : ∀ x, (f x).length = w) : ∀ {l : List α} {o : Nat}, (∀ i (h : i < l.length), sliceIn cs (o + i * w) w = some (f l[i])) → sliceIn cs o (l.length * w) = some (l.flatMap f)
  | [], o, _ => by simp [sliceIn]
  | a :: r, o, hw => by
    have h0 := hw 0 (by simp)
    simp only [Nat.zero_mul, Nat.add_zero, List.getElem_cons_zero] at h0
    have hr := slAt_cells (cs := cs) hf (l := r) (o := o + w) (fun i hi => by
      have := hw (i + 1) (by simpa using hi)
      rw [show o + (i + 1) * w = o + w + i * w by rw [Nat.add_mul]; omega] at this
      simpa using this)
    simp only [sliceIn] at h0 hr ⊢
    split at h0
    · rename_i e0
      split at hr
      · rename_i e1
        simp only [Option.some.injEq] at h0 hr
        have key : (cs.drop o).take ((a :: r).length * w) = f a ++ r.flatMap f := by
          rw [List.length_cons, Nat.add_mul, Nat.one_mul, Nat.add_comm, List.take_add, h0, List.drop_drop, hr]
        rw [key]
        have hl : (f a ++ r.flatMap f).length = (a :: r).length * w := by
          rw [List.length_append, hf, len_flat hf, List.length_cons, Nat.add_mul]; omega
        rw [if_pos (by simpa using hl)]
        simp
      · cases hr
    · cases h0
end
section
variable {P : Program} {l : EL} {h : AHeap} {α : Type} {f : α → List Value} {w : Nat}
def fromO (o c i w : Nat) : Nat := if c = i then o else o + i * w
theorem part_from {cs : List Value} {l : List α} {o c i : Nat} (hf : ∀ x, (f x).length = w) (hw : ∀ j (h : j < l.length), sliceIn cs (o + j * w) w = some (f l[j])) (hc : l.length ≤ c) : sliceIn cs (fromO o c i w) ((l.length - i) * w) = some ((l.drop i).flatMap f) := by
  by_cases hd : c = i
  · have h0 : l.length - i = 0 := by omega
    have e : l.drop i = [] := by rw [List.drop_eq_nil_iff]; omega
    rw [h0, e]; simp [sliceIn]
  · have := slAt_cells (f := f) (w := w) hf (l := l.drop i) (o := o + i * w) (cs := cs) (fun j hj => by
      rw [List.length_drop] at hj
      rw [List.getElem_drop]
      have := hw (i + j) (by omega)
      rw [show o + i * w + j * w = o + (i + j) * w by rw [Nat.add_mul]; omega]; exact this)
    rw [List.length_drop] at this
    unfold fromO
    rw [if_neg hd]; exact this
end
/-! ### drawn regions -/
section
variable {P : Program} {rd : Option Nat} {nt : Nat} {ops : Array Oper} {l : EL} {ds : List Nat} {K : St → Prop} {i : Nat} {r : List Oper} {ty : TypeId} {pos : String} {af : Array Edge} {H : AHeap} {lo : Nat} {L0 : List (Option ABlk)} {ow : List Nat} {N : List ABlk}
theorem sd_newSA [PC P] {d n c : Nat} {op : Op} {x : ABlk} (hfree : isFree op = false) (hw : ow.length = N.length) (hm : ow.all (fun j => Nat.testBit (befS ops i) j) = true) (hop : Does P l op (ext H lo (L0 ++ N.map some)) (.slice (some ⟨(ext H lo (L0 ++ N.map some)).fresh, 0, none⟩) n c) ((ext H lo (L0 ++ N.map some)).add x)) (hd : Nat.blt d nt = true)
    (hk : SeqD P rd nt ops r (i + 1) ds ((d, .slice (some ⟨nb H (L0.length + N.length), 0, none⟩) n c) :: l) H lo L0 (ow ++ [i]) (N ++ [x]) K) : SeqD P rd nt ops (⟨some d, op, ty, pos, af, none⟩ :: r) i ds l H lo L0 ow N K := by
  have e : (ext H lo (L0 ++ N.map some)).fresh = nb H (L0.length + N.length) := by rw [ext_fresh]; simp
  rw [e, ext_add] at hop
  exact sd_ho fun ho => sd_some hfree (mask_allA hw hm) (fun _ ha => opT_of ho rfl hop hd ha) hk
theorem opT_ofGC {o : Oper} {d : Nat} {c : Call} {h h' : AHeap} {v : Value} {ad : List Nat} {f : FuncId} {args : List Value} {j t : Nat} {w : Bool} (ho : ops[i]? = some o) (e : o = ⟨some d, .call c, ty, pos, af, some (j, w)⟩) (hg : gdst ops j = some t) (hl : lk l t = some (.bool w)) (ht : tgtE l c = some (f, args)) (hc : Ret P f args h v h') (hd : Nat.blt d nt = true) (ha : ∀ x ∈ ad, x ∉ reads ops o) :
    OpT P rd nt ops i ⟨ofA (fl ad l), ds, h⟩ (fun s => s = ⟨ofA (upd o.dst v (fl ad l)), ds, h'⟩) := by
  subst e
  refine opT_call ho (s := ⟨ofA (fl ad l), ds, h⟩) (by rw [want_fl rfl hg hl ha]; simp) rfl (tgt_fl rfl ht ha) hc fun u H' hm => ?_
  obtain ⟨rfl, rfl⟩ := hm
  exact ⟨_, put_upd hd, rfl⟩
theorem sd_gcall {d : Nat} {c : Call} {v : Value} {f : FuncId} {args : List Value} {j t : Nat} {w : Bool} (hg : gdst ops j = some t) (hl : lk l t = some (.bool w)) (ht : tgtE l c = some (f, args)) (hc : Ret P f args (ext H lo (L0 ++ N.map fun _ => none)) v (ext H lo (L0 ++ N.map fun _ => none))) (hd : Nat.blt d nt = true)
    (hk : SeqD P rd nt ops r (i + 1) ds ((d, v) :: l) H lo L0 ow N K) : SeqD P rd nt ops (⟨some d, .call c, ty, pos, af, some (j, w)⟩ :: r) i ds l H lo L0 ow N K :=
  sd_ho fun ho => sd_none rfl (mask_noneA _) (fun _ ha => opT_ofGC ho rfl hg hl ht hc hd ha) hk
end
section
variable {P : Program} {rd : Option Nat} {nt : Nat} {ops : Array Oper} {l : EL} {ds : List Nat} {K : St → Prop} {i : Nat} {r : List Oper} {ty : TypeId} {pos : String} {af : Array Edge} {H : AHeap} {lo : Nat} {L0 : List (Option ABlk)} {ow : List Nat} {N : List (Option ABlk)}
end
/-! ### joins of ways that leave different heaps -/
structure JX {α : Type} (E : α → EL) (ds : List Nat) (hh : α → AHeap) (J : α → Prop) (s : St) : Prop where
  out : ∃ a, J a ∧ JP (E a) ds (hh a) s
section
variable {P : Program} {rd : Option Nat} {nt : Nat} {ops : Array Oper} {l : EL} {ds : List Nat} {i : Nat} {r : List Oper} {H : AHeap} {lo : Nat} {L0 : List (Option ABlk)} {ow : List Nat} {N : List ABlk}
  {Qn : St → Prop} {Qe : Nat → St → Prop} {Qr : St → Prop} {α : Type} {E : α → EL} {hh : α → AHeap} {J : α → Prop}
theorem jx_of (a : α) {h : AHeap} (hJ : J a) (hs : Sub (E a) l) (e : h = hh a) : JX E ds hh J ⟨ofA l, ds, h⟩ := ⟨a, hJ, by subst e; exact jp_of hs⟩
theorem jx_ct {b : Code} (h2 : ∀ a, J a → CT P rd nt b ⟨ofA (E a), ds, hh a⟩ Qn Qe Qr) (s' : St) (hj : JX E ds hh J s') : CT P rd nt b s' Qn Qe Qr := by
  obtain ⟨a, hJ, h⟩ := hj.out
  exact jp_ct (h2 a hJ) s' h
theorem seq_JX {b : Code} {s : St} (E : α → EL) (hh : α → AHeap) (J : α → Prop) (h1 : SeqL P rd nt ops r i s (JX E ds hh J)) (h2 : ∀ a, J a → CT P rd nt b ⟨ofA (E a), ds, hh a⟩ Qn Qe Qr) : SeqL P rd nt ops r i s (fun s' => CT P rd nt b s' Qn Qe Qr) :=
  ⟨seqL0_mono (jx_ct h2) h1.out⟩
end
end Go.Den
/- The symbolic layer: appends of nothing, ends of functions. -/
noncomputable section
namespace Go.Den
section
variable {P : Program} {l : EL} {h : AHeap}
end
section
variable {P : Program} {l : EL} {H : AHeap} {lo : Nat} {L : List (Option ABlk)}
theorem renOf_old {b : Nat} {lb : List Nat} (h : b % 2 = 1 ∨ b < H.fresh) : renOf H lb b = some b := if_pos h
end
section
end
end Go.Den
