/- The symbolic layer: appends in place, blocks of the caller that are dropped or turned. -/
import Derived.Test.YtfegloadbajbhaaGreatDoorSxR
noncomputable section
namespace Go.Den

section
variable {P : Program} {l : EL} {h : AHeap}
end

section
variable {H : AHeap} {lo : Nat} {L : List (Option ABlk)}
theorem kill_get {b c : Nat} (hb : own b = true) : (H.kill b).get c = if c = b then none else H.get c := AHeap.get_kill _ _ _ hb
theorem closed_kill (hc : Closed H) {b : Nat} (hb : own b = true) : Closed (H.kill b) := fun c h1 h2 => by
  have h2' : H.fresh ≤ c := h2
  rw [kill_get hb]
  split
  · rfl
  · exact hc c h1 h2'
/-- an old block is dropped, a new one is made -/
theorem ext_push_old {b : Nat} (hb : own b = true) (hlt : b < H.fresh) (hc : Closed H) (x : ABlk) : HQ (((ext H lo L).kill b).add x) (ext (H.kill b) (min lo b) (L ++ [some x])) := by
  have hc' : Closed (H.kill b) := closed_kill hc hb
  have q : HQ ((ext H lo L).kill b) (ext (H.kill b) (min lo b) L) := by
    refine ⟨fun c => ?_, rfl, ?_⟩
    · rw [kill_get hb, ext_get hc, ext_get hc', kill_get hb]
      have hf : (H.kill b).fresh = H.fresh := rfl
      have hn : (H.kill b).next = H.next := rfl
      rw [hf, hn]
      by_cases h : c % 2 = 0 ∧ H.fresh ≤ c
      · rw [if_pos h, if_pos h, if_neg (by omega)]
      · rw [if_neg h, if_neg h]
    · show min (min lo H.fresh) b = min (min lo b) H.fresh
      omega
  refine ⟨fun c => ?_, ?_, ?_⟩
  · rw [← ext_add]
    have e1 : ((ext H lo L).kill b).fresh = (ext (H.kill b) (min lo b) L).fresh := q.fresh
    have g1 := fun X : AHeap => AHeap.get_add X x
    rcases Nat.mod_two_eq_zero_or_one c with h | h
    · rw [AHeap.get_even _ h, AHeap.get_even _ h]
      show ((((ext H lo L).kill b).blks.set _ x).get _) = (((ext (H.kill b) (min lo b) L).blks.set _ x).get _)
      rw [Tr.get_set, Tr.get_set]
      have := q.get c
      rw [AHeap.get_even _ h, AHeap.get_even _ h] at this
      rw [this]
      have hn : ((ext H lo L).kill b).next = (ext (H.kill b) (min lo b) L).next := q.next
      rw [hn]
    · rw [AHeap.get_odd _ h, AHeap.get_odd _ h]
      have := q.get c
      rw [AHeap.get_odd _ h, AHeap.get_odd _ h] at this
      exact this
  · rw [← ext_add]
    show ((ext H lo L).kill b).next + 1 = (ext (H.kill b) (min lo b) L).next + 1
    rw [q.next]
  · show min (min lo H.fresh) b = min (min lo b) H.fresh
    omega
end

section
variable {P : Program} {rd : Option Nat} {nt : Nat} {ops : Array Oper} {l : EL} {ds : List Nat} {K : St → Prop} {i : Nat} {r : List Oper} {o : Oper} {ty : TypeId} {pos : String} {af : Array Edge} {H : AHeap} {lo : Nat} {L : List (Option ABlk)}
/-- a new block takes the place of an old one -/
theorem seq_pushO [PC P] {d n c : Nat} {op : Op} {b : Nat} {x : ABlk} (hc : Closed H) (hb : own b = true) (hlt : b < H.fresh) (hop : Does P l op (ext H lo L) (.slice (some ⟨(ext H lo L).fresh, 0, none⟩) n c) (((ext H lo L).kill b).add x)) (hd : Nat.blt d nt = true)
    (hk : SeqL P rd nt ops (o :: r) (i + 1) ⟨ofA ((d, .slice (some ⟨nb H L.length, 0, none⟩) n c) :: l), ds, ext (H.kill b) (min lo b) (L ++ [some x])⟩ K) : SeqL P rd nt ops (⟨some d, op, ty, pos, af, none⟩ :: o :: r) i ⟨ofA l, ds, ext H lo L⟩ K :=
  seq_plain hop hd (seqL_to sub_refl (ext_push_old hb hlt hc x) (by simp) hk)
end
end Go.Den
