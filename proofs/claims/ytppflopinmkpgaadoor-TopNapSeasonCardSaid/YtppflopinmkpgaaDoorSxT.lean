/- The symbolic layer: blocks of the caller that are turned; labels and scopes. -/
import Derived.Test.YtppflopinmkpgaaDoorSxK
noncomputable section
namespace Go.Den

/-- H with some of its own blocks turned, all into cells without addresses -/
structure Puts (H H1 : AHeap) : Prop where
  next : H1.next = H.next
  odd : ∀ b, b % 2 = 1 → H1.get b = H.get b
  ge : ∀ b, b % 2 = 0 → H.fresh ≤ b → H1.get b = none
  chg : ∀ b y, b % 2 = 0 → b < H.fresh → H1.get b = some y → H.get b = some y ∨ ∃ cs z s ro, y = .cells cs z s ro ∧ cs.all (flatD 8) = true
  low : H1.low ≤ H.low
  lows : ∀ b, b < H.fresh → b < H1.low → H1.get b = H.get b
theorem Puts.refl {H : AHeap} (hc : Closed H) : Puts H H := ⟨rfl, fun _ _ => rfl, hc, fun _ _ _ _ h => .inl h, Nat.le_refl _, fun _ _ _ => rfl⟩
theorem Puts.closed {H H1 : AHeap} (h : Puts H H1) : Closed H1 := fun b h1 h2 => h.ge b h1 (by simp only [AHeap.fresh, h.next] at h2 ⊢; exact h2)
theorem Puts.fresh {H H1 : AHeap} (h : Puts H H1) : H1.fresh = H.fresh := by simp only [AHeap.fresh, h.next]
theorem Puts.put {H H1 : AHeap} (h : Puts H H1) {b : Nat} (hb : own b = true) (hlt : b < H.fresh) {cs : List Value} {z : Nat} {s ro : Bool} (hf : cs.all (flatD 8) = true) : Puts H (H1.put b (.cells cs z s ro)) := by
  refine ⟨h.next, fun c hc => ?_, fun c h1 h2 => ?_, fun c y h1 h2 hy => ?_, Nat.le_trans (Nat.min_le_left _ _) h.low, fun c h1 h2 => ?_⟩
  · rw [AHeap.get_put _ _ _ _ hb, if_neg (by intro e; subst e; rw [own_iff] at hb; omega)]; exact h.odd c hc
  · rw [AHeap.get_put _ _ _ _ hb, if_neg (by omega)]; exact h.ge c h1 h2
  · rw [AHeap.get_put _ _ _ _ hb] at hy
    split at hy
    · cases hy; exact .inr ⟨_, _, _, _, rfl, hf⟩
    · exact h.chg c y h1 h2 hy
  · have h2' : c < min H1.low b := h2
    rw [AHeap.get_put _ _ _ _ hb, if_neg (by omega)]
    exact h.lows c h1 (by omega)
theorem put_get {H : AHeap} {b c : Nat} {x : ABlk} (hb : own b = true) : (H.put b x).get c = if c = b then some x else H.get c := AHeap.get_put _ _ _ _ hb
theorem put_same {H : AHeap} {b : Nat} {x : ABlk} (hb : own b = true) : (H.put b x).get b = some x := by rw [put_get hb, if_pos rfl]
theorem put_ne {H : AHeap} {b c : Nat} {x y : ABlk} (hb : own b = true) (hne : c ≠ b) (h : H.get c = some y) : (H.put b x).get c = some y := by rw [put_get hb, if_neg hne]; exact h
theorem closed_put {H : AHeap} (hc : Closed H) {b : Nat} {x : ABlk} (hb : own b = true) (hlt : b < H.fresh) : Closed (H.put b x) := fun c h1 h2 => by
  have h2' : H.fresh ≤ c := h2
  rw [put_get hb, if_neg (by omega)]; exact hc c h1 h2'

/-- the end of a function that has turned blocks of its caller -/
theorem fin_puts {P : Program} {H H1 : AHeap} {Q : Value → AHeap → Prop} {rs : Array ResultVar} {l : EL} {L : List (Option ABlk)} {lo : Nat} {vs : List Value} (hp : Puts H H1) (hr : resE l rs.toList = some vs) (hv : flatD 8 (packA vs) = true) (hq : Q (packA vs) H1) :
    Fin P rs H Q ⟨ofA l, [], ext H1 lo L⟩ := by
  refine ⟨⟨_, vs, packA vs, H1, rfl, resE_A hr, ?_, hq⟩⟩
  have hc1 := hp.closed
  refine tidy_of (H0 := H1) (ys := []) (l := []) (ren := renOf H []) ?_ (renV_flat 8 hv)
  refine ⟨fun b h => by simp only [renOf, if_pos h], fun b c h1 h2 => ?_, fun k b h => by simp at h, rfl, fun k b y h => by simp at h, hp.next, hp.odd, hp.ge, fun b y h1 h2 h3 => ?_, hp.low, hp.lows⟩
  · simp only [renOf, if_neg h1] at h2
    simp at h2
  · have hg := ext_get_old (lo := lo) (L := L) hc1 h3
    rcases hp.chg b y h1 h2 h3 with h | ⟨cs, z, s, ro, rfl, hf⟩
    · exact .inl ⟨h, hg⟩
    · exact .inr ⟨_, hg, renB_flat hf⟩

section
variable {P : Program} {rd : Option Nat} {nt : Nat} {ops : Array Oper} {l : EL} {ds : List Nat} {K : St → Prop} {i : Nat} {r : List Oper} {o : Oper} {ty : TypeId} {pos : String} {af : Array Edge} {H : AHeap} {lo : Nat} {L : List (Option ABlk)}
  {Qn : St → Prop} {Qe : Nat → St → Prop} {Qr : St → Prop}
theorem seq_putOC [PC P] {op : Op} {v : Value} {b : Nat} {x : ABlk} {c : Code} (hc : Closed H) (hb : own b = true) (hlt : b < H.fresh) (hop : Does P l op (ext H lo L) v ((ext H lo L).put b x))
    (hk : CT P rd nt c ⟨ofA l, ds, ext (H.put b x) (min lo b) L⟩ Qn Qe Qr) : SeqL P rd nt ops [⟨none, op, ty, pos, af, none⟩] i ⟨ofA l, ds, ext H lo L⟩ (fun s' => CT P rd nt c s' Qn Qe Qr) :=
  seq_plain0 hop (seq_nil (ct_to sub_refl (ext_put_old hb hlt hc x) hk))
/-- the same in a drawn region, last -/
theorem sd_putOC [PC P] {op : Op} {v : Value} {b : Nat} {x : ABlk} {c : Code} {L0 : List (Option ABlk)} {ow : List Nat} {N : List ABlk} (hfree : isFree op = false) (hser : seriesS ops i = true) (hc : Closed H) (hb : own b = true) (hlt : b < H.fresh)
    (hop : Does P l op (ext H lo (L0 ++ N.map some)) v ((ext H lo (L0 ++ N.map some)).put b x)) (hk : CT P rd nt c ⟨ofA l, ds, ext (H.put b x) (min lo b) (L0 ++ N.map some)⟩ Qn Qe Qr) :
    SeqD P rd nt ops [⟨none, op, ty, pos, af, none⟩] i ds l H lo L0 ow N (fun s' => CT P rd nt c s' Qn Qe Qr) := by
  refine sd_ho fun ho => sd_seriesC (v := v) (h' := (ext H lo (L0 ++ N.map some)).put b x) (H' := H.put b x) (lo' := min lo b) (L' := L0 ++ N.map some) hfree hser (fun ad ha => ?_) (ext_put_old hb hlt hc x) rfl (closed_put hc hb hlt) ?_ ?_ (sd_nil (by simpa [upd] using hk))
  · refine opT_plain PC.ok ho (s := ⟨ofA (fl ad l), ds, _⟩) rfl (does_fl hop ha) fun u H' hm => ?_
    rw [List.mem_singleton] at hm
    cases hm
    exact ⟨_, rfl, rfl⟩
  · show min (min lo b) H.fresh ≤ min lo H.fresh
    omega
  · rw [ext_fresh, ext_fresh]; exact Nat.le_refl _
end

section
variable {P : Program} {l : EL} {h : AHeap}
theorem stl_flat {α : Type} {f : α → List Value} {w : Nat} (hf : ∀ x, (f x).length = w) {l : List α} {i j : Nat} {v : Value} {x' : α} (h : i < l.length) (hj : j < w) (hv : (f l[i]).set j v = f x') (hg : v.cells.toList = [v]) (ho : oneCell v = true) :
    stl 1 (l.flatMap f) (0 + i * w + j * 1) v = some ((l.set i x').flatMap f) := by
  have key : ∀ (l : List α) (i : Nat) (h : i < l.length), (f l[i]).set j v = f x' → writeAt (l.flatMap f) (i * w + j) [v] = some ((l.set i x').flatMap f) := by
    intro l
    induction l with
    | nil => intro i h; simp at h
    | cons a r ih =>
      intro i h hv
      have w1 : ∀ (a b : List Value) (k : Nat), k < a.length → writeAt (a ++ b) k [v] = some (a.set k v ++ b) := by
        intro a
        induction a with
        | nil => intro b k hk; simp at hk
        | cons y ys ihy =>
          intro b k hk
          cases k with
          | zero => simp [writeAt]
          | succ k => simp [writeAt, ihy b k (by simpa using hk)]
      have w2 : ∀ (a b c : List Value) (k : Nat), writeAt b k [v] = some c → writeAt (a ++ b) (a.length + k) [v] = some (a ++ c) := by
        intro a
        induction a with
        | nil => intro b c k hk; simpa using hk
        | cons y ys ihy =>
          intro b c k hk
          have e : (y :: ys).length + k = (ys.length + k) + 1 := by simp; omega
          rw [e]
          simp [writeAt, ihy b c k hk]
      cases i with
      | zero =>
        simp only [List.getElem_cons_zero] at hv
        simp only [List.flatMap_cons, List.set_cons_zero, Nat.zero_mul, Nat.zero_add]
        rw [w1 _ _ _ (by rw [hf]; exact hj), hv]
      | succ i =>
        simp only [List.getElem_cons_succ] at hv
        simp only [List.flatMap_cons, List.set_cons_succ]
        have e : (i + 1) * w + j = (f a).length + (i * w + j) := by rw [hf, Nat.add_mul]; omega
        rw [e, w2 _ _ _ _ (ih i (by simpa using h) hv)]
  have e : 0 + i * w + j * 1 = i * w + j := by omega
  have := key l i h hv
  simp only [stl, hg, e]
  simp [ho, this]
end
end Go.Den
/- The symbolic layer: parts of lists, appends of parts, blocks that are replaced in drawn regions. -/
noncomputable section
namespace Go.Den

section
variable {P : Program} {l : EL} {h : AHeap}
end

section
variable {α : Type} {f : α → List Value} {w : Nat}
theorem slAt_cells {cs : List Value} (hf : ∀ x, (f x).length = w) : ∀ {l : List α} {o : Nat}, (∀ i (h : i < l.length), sliceIn cs (o + i * w) w = some (f l[i])) → sliceIn cs o (l.length * w) = some (l.flatMap f)
  | [], o, _ => by simp [sliceIn]
  | a :: r, o, hw => by
    have h0 := hw 0 (by simp)
    simp only [Nat.zero_mul, Nat.add_zero, List.getElem_cons_zero] at h0
    have hr := slAt_cells (cs := cs) hf (l := r) (o := o + w) (fun i hi => by
      have := hw (i + 1) (by simpa using hi)
      rw [show o + (i + 1) * w = o + w + i * w by rw [Nat.add_mul]; omega] at this
      simpa using this)
    simp only [sliceIn] at h0 hr ⊢
    split at h0
    · rename_i e0
      split at hr
      · rename_i e1
        simp only [Option.some.injEq] at h0 hr
        have key : (cs.drop o).take ((a :: r).length * w) = f a ++ r.flatMap f := by
          rw [List.length_cons, Nat.add_mul, Nat.one_mul, Nat.add_comm, List.take_add, h0, List.drop_drop, hr]
        rw [key]
        have hl : (f a ++ r.flatMap f).length = (a :: r).length * w := by
          rw [List.length_append, hf, len_flat hf, List.length_cons, Nat.add_mul]; omega
        rw [if_pos (by simpa using hl)]
        simp
      · cases hr
    · cases h0

/-- p points at the elements of l, in a block whose size is known -/
structure SlX {α : Type} (H : AHeap) (w : Nat) (f : α → List Value) (p : Option Addr) (c : Nat) (l : List α) : Prop where
  at_ : SlAt H w f p l
  blk : l ≠ [] → ∀ b o, p = some ⟨b, o, none⟩ → ∃ cs ro, H.get b = some (.cells cs w false ro)
  cap : l.length ≤ c
  nil : p = none → l.length = 0 ∧ c = 0
  spot : ∀ a, p = some a → a.spot = none
theorem SlX.ext {H H' : AHeap} {p : Option Addr} {c : Nat} {l : List α} (h : SlX H w f p c l) (hE : Ext H H') : SlX H' w f p c l :=
  ⟨h.at_.ext hE, fun hne b o hp => by
    obtain ⟨cs, ro, hg⟩ := h.blk hne b o hp
    exact ⟨cs, ro, hE _ _ hg⟩, h.cap, h.nil, h.spot⟩
end

section
variable {P : Program} {l : EL} {h : AHeap} {α : Type} {f : α → List Value} {w : Nat}
/-- where the rest of a list begins -/
def fromO (o c i w : Nat) : Nat := if c = i then o else o + i * w
theorem part_from {cs : List Value} {l : List α} {o c i : Nat} (hf : ∀ x, (f x).length = w) (hw : ∀ j (h : j < l.length), sliceIn cs (o + j * w) w = some (f l[j])) (hc : l.length ≤ c) : sliceIn cs (fromO o c i w) ((l.length - i) * w) = some ((l.drop i).flatMap f) := by
  by_cases hd : c = i
  · have h0 : l.length - i = 0 := by omega
    have e : l.drop i = [] := by rw [List.drop_eq_nil_iff]; omega
    rw [h0, e]; simp [sliceIn]
  · have := slAt_cells (f := f) (w := w) hf (l := l.drop i) (o := o + i * w) (cs := cs) (fun j hj => by
      rw [List.length_drop] at hj
      rw [List.getElem_drop]
      have := hw (i + j) (by omega)
      rw [show o + i * w + j * w = o + (i + j) * w by rw [Nat.add_mul]; omega]; exact this)
    rw [List.length_drop] at this
    unfold fromO
    rw [if_neg hd]; exact this
end

/-! ### drawn regions -/
section
variable {P : Program} {rd : Option Nat} {nt : Nat} {ops : Array Oper} {l : EL} {ds : List Nat} {K : St → Prop} {i : Nat} {r : List Oper} {ty : TypeId} {pos : String} {af : Array Edge} {H : AHeap} {lo : Nat} {L0 : List (Option ABlk)} {ow : List Nat} {N : List ABlk}
theorem opT_ofGC {o : Oper} {d : Nat} {c : Call} {h h' : AHeap} {v : Value} {ad : List Nat} {f : FuncId} {args : List Value} {j t : Nat} {w : Bool} (ho : ops[i]? = some o) (e : o = ⟨some d, .call c, ty, pos, af, some (j, w)⟩) (hg : gdst ops j = some t) (hl : lk l t = some (.bool w)) (ht : tgtE l c = some (f, args)) (hc : Ret P f args h v h') (hd : Nat.blt d nt = true) (ha : ∀ x ∈ ad, x ∉ reads ops o) :
    OpT P rd nt ops i ⟨ofA (fl ad l), ds, h⟩ (fun s => s = ⟨ofA (upd o.dst v (fl ad l)), ds, h'⟩) := by
  subst e
  refine opT_call ho (s := ⟨ofA (fl ad l), ds, h⟩) (by rw [want_fl rfl hg hl ha]; simp) rfl (tgt_fl rfl ht ha) hc fun u H' hm => ?_
  obtain ⟨rfl, rfl⟩ := hm
  exact ⟨_, put_upd hd, rfl⟩
/-- a call under a condition -/
theorem sd_gcall {d : Nat} {c : Call} {v : Value} {f : FuncId} {args : List Value} {j t : Nat} {w : Bool} (hg : gdst ops j = some t) (hl : lk l t = some (.bool w)) (ht : tgtE l c = some (f, args)) (hc : Ret P f args (ext H lo (L0 ++ N.map fun _ => none)) v (ext H lo (L0 ++ N.map fun _ => none))) (hd : Nat.blt d nt = true)
    (hk : SeqD P rd nt ops r (i + 1) ds ((d, v) :: l) H lo L0 ow N K) : SeqD P rd nt ops (⟨some d, .call c, ty, pos, af, some (j, w)⟩ :: r) i ds l H lo L0 ow N K :=
  sd_ho fun ho => sd_none rfl (mask_noneA _) (fun _ ha => opT_ofGC ho rfl hg hl ht hc hd ha) hk
end
section
variable {P : Program} {rd : Option Nat} {nt : Nat} {ops : Array Oper} {l : EL} {ds : List Nat} {K : St → Prop} {i : Nat} {r : List Oper} {ty : TypeId} {pos : String} {af : Array Edge} {H : AHeap} {lo : Nat} {L0 : List (Option ABlk)} {ow : List Nat} {N : List (Option ABlk)}
end

/-! ### joins of ways that leave different heaps -/
section
variable {P : Program} {rd : Option Nat} {nt : Nat} {ops : Array Oper} {l : EL} {ds : List Nat} {i : Nat} {r : List Oper} {H : AHeap} {lo : Nat} {L0 : List (Option ABlk)} {ow : List Nat} {N : List ABlk}
  {Qn : St → Prop} {Qe : Nat → St → Prop} {Qr : St → Prop} {α : Type} {E : α → EL} {hh : α → AHeap} {J : α → Prop}
end
end Go.Den
