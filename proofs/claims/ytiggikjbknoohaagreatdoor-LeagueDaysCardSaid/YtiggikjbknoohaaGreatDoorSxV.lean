/- The symbolic layer: appends in place, blocks of the caller that are dropped or turned. -/
import Derived.Test.YtiggikjbknoohaaGreatDoorSxU
import Derived.Test.YtiggikjbknoohaaGreatDoorSxR
noncomputable section
namespace Go.Den

section
variable {P : Program} {l : EL} {h : AHeap}
/-- append into a part that lies free -/
theorem do_appendIn {args : Array Operand} {tys : Array TypeId} {st : TypeId} {r : List TypeId} {b o n c m by' z z0 sl sc b0 : Nat} {ag k ro k0 : Bool} {e : TypeId} {zs cs new old old' : List Value} (ha : evs l args.toList = some [.slice (some ⟨b0, 0, none⟩) sl sc, .slice (some ⟨b, o, none⟩) n c]) (hty : tys.toList = st :: st :: r)
    (hs : selOf P st = some (m, ag)) (he : (tyOf P st).map (·.und) = some (.slice e)) (hz : zerOf P e = some zs) (hby : (tyOf P e).map (·.bytes) = some by')
    (hb : h.get b = some (.cells cs z k ro)) (hn : sliceIn cs o (n * m) = some new) (h0 : h.get b0 = some (.cells old z0 k0 false)) (hown : own b0 = true) (hone : new.all oneCell = true) (hw : writeAt old (0 + sl * m) new = some old') (h1 : (2 * (sl + n) + 1000) * by' ≤ 2 ^ 48) (h2 : by' ≠ 0) (h3 : m ≠ 0) (h4 : 0 < n) (hle : sl + n ≤ sc) :
    Does P l (.call ⟨.builtin .append, args, tys⟩) h (.slice (some ⟨b0, 0, none⟩) (sl + n) sc) (h.put b0 (.cells old' z0 k0 false)) := by
  refine do_builtin ha ?_
  rw [hty]
  obtain ⟨ei, e1, e2⟩ := appendA_of (r := r) (c := c) hs he hz hby hb hn (s := .slice (some ⟨b0, 0, none⟩) sl sc) rfl h1 h2 h3
  simp only [biA, e2, pushA]
  rw [if_pos hle]
  have hn0 : (n == 0) = false := by simp; omega
  simp only [hn0, hone, h0, hown, e1, hw, Bool.not_true, Bool.false_eq_true, if_false, if_true]
end

section
variable {H : AHeap} {lo : Nat} {L : List (Option ABlk)}
theorem kill_get {b c : Nat} (hb : own b = true) : (H.kill b).get c = if c = b then none else H.get c := AHeap.get_kill _ _ _ hb
theorem closed_kill (hc : Closed H) {b : Nat} (hb : own b = true) : Closed (H.kill b) := fun c h1 h2 => by
  have h2' : H.fresh ≤ c := h2
  rw [kill_get hb]
  split
  · rfl
  · exact hc c h1 h2'
/-- an old block is dropped, a new one is made -/
theorem ext_push_old {b : Nat} (hb : own b = true) (hlt : b < H.fresh) (hc : Closed H) (x : ABlk) : HQ (((ext H lo L).kill b).add x) (ext (H.kill b) (min lo b) (L ++ [some x])) := by
  have hc' : Closed (H.kill b) := closed_kill hc hb
  have q : HQ ((ext H lo L).kill b) (ext (H.kill b) (min lo b) L) := by
    refine ⟨fun c => ?_, rfl, ?_⟩
    · rw [kill_get hb, ext_get hc, ext_get hc', kill_get hb]
      have hf : (H.kill b).fresh = H.fresh := rfl
      have hn : (H.kill b).next = H.next := rfl
      rw [hf, hn]
      by_cases h : c % 2 = 0 ∧ H.fresh ≤ c
      · rw [if_pos h, if_pos h, if_neg (by omega)]
      · rw [if_neg h, if_neg h]
    · show min (min lo H.fresh) b = min (min lo b) H.fresh
      omega
  refine ⟨fun c => ?_, ?_, ?_⟩
  · rw [← ext_add]
    have e1 : ((ext H lo L).kill b).fresh = (ext (H.kill b) (min lo b) L).fresh := q.fresh
    have g1 := fun X : AHeap => AHeap.get_add X x
    rcases Nat.mod_two_eq_zero_or_one c with h | h
    · rw [AHeap.get_even _ h, AHeap.get_even _ h]
      show ((((ext H lo L).kill b).blks.set _ x).get _) = (((ext (H.kill b) (min lo b) L).blks.set _ x).get _)
      rw [Tr.get_set, Tr.get_set]
      have := q.get c
      rw [AHeap.get_even _ h, AHeap.get_even _ h] at this
      rw [this]
      have hn : ((ext H lo L).kill b).next = (ext (H.kill b) (min lo b) L).next := q.next
      rw [hn]
    · rw [AHeap.get_odd _ h, AHeap.get_odd _ h]
      have := q.get c
      rw [AHeap.get_odd _ h, AHeap.get_odd _ h] at this
      exact this
  · rw [← ext_add]
    show ((ext H lo L).kill b).next + 1 = (ext (H.kill b) (min lo b) L).next + 1
    rw [q.next]
  · show min (min lo H.fresh) b = min (min lo b) H.fresh
    omega
end

section
variable {P : Program} {rd : Option Nat} {nt : Nat} {ops : Array Oper} {l : EL} {ds : List Nat} {K : St → Prop} {i : Nat} {r : List Oper} {o : Oper} {ty : TypeId} {pos : String} {af : Array Edge} {H : AHeap} {lo : Nat} {L : List (Option ABlk)}
/-- an old block is turned, and something told -/
theorem seq_putOd [PC P] {d : Nat} {op : Op} {v : Value} {b : Nat} {x : ABlk} (hc : Closed H) (hb : own b = true) (hlt : b < H.fresh) (hop : Does P l op (ext H lo L) v ((ext H lo L).put b x)) (hd : Nat.blt d nt = true)
    (hk : SeqL P rd nt ops (o :: r) (i + 1) ⟨ofA ((d, v) :: l), ds, ext (H.put b x) (min lo b) L⟩ K) : SeqL P rd nt ops (⟨some d, op, ty, pos, af, none⟩ :: o :: r) i ⟨ofA l, ds, ext H lo L⟩ K :=
  seq_plain hop hd (seqL_to sub_refl (ext_put_old hb hlt hc x) (by simp) hk)
/-- a new block takes the place of an old one -/
theorem seq_pushO [PC P] {d n c : Nat} {op : Op} {b : Nat} {x : ABlk} (hc : Closed H) (hb : own b = true) (hlt : b < H.fresh) (hop : Does P l op (ext H lo L) (.slice (some ⟨(ext H lo L).fresh, 0, none⟩) n c) (((ext H lo L).kill b).add x)) (hd : Nat.blt d nt = true)
    (hk : SeqL P rd nt ops (o :: r) (i + 1) ⟨ofA ((d, .slice (some ⟨nb H L.length, 0, none⟩) n c) :: l), ds, ext (H.kill b) (min lo b) (L ++ [some x])⟩ K) : SeqL P rd nt ops (⟨some d, op, ty, pos, af, none⟩ :: o :: r) i ⟨ofA l, ds, ext H lo L⟩ K :=
  seq_plain hop hd (seqL_to sub_refl (ext_push_old hb hlt hc x) (by simp) hk)
end
end Go.Den
