/- Contracts: the reference's Promote. -/
import Derived.Test.YtiggikjbknoohaaGreatDoorPrD
noncomputable section
namespace Go.Proofs.YtiggikjbknoohaaGreatDoor
open Go Go.Den
set_option maxRecDepth 100000

/-- a list of words that was made -/
def InS (H : AHeap) (L : List (Option ABlk)) (x : Sz) : Prop := (x.p = none ∧ x.l = []) ∨ ∃ k, L[k]? = some (some (.cells (x.l.flatMap s1) 1 true false)) ∧ x.l ≠ [] ∧ x.p = some ⟨nb H k, 0, none⟩
theorem InS.keep {H : AHeap} {L L' : List (Option ABlk)} {x : Sz} (h : InS H L x) (hk : ∀ (j : Nat) wl, wl ≠ [] → L[j]? = some (some (.cells (wl.flatMap s1) 1 true false)) → L'[j]? = some (some (.cells (wl.flatMap s1) 1 true false))) : InS H L' x := by
  rcases h with h | ⟨k, h1, h2, h3⟩
  · exact .inl h
  · exact .inr ⟨k, hk _ _ h2 h1, h2, h3⟩
theorem InS.slAt {H : AHeap} {lo : Nat} {L : List (Option ABlk)} {x : Sz} (h : InS H L x) : SlAt (ext H lo L) 1 s1 x.p x.l := by
  rcases h with ⟨_, h⟩ | ⟨k, h1, h2, h3⟩
  · rw [h]; exact ⟨fun e => absurd rfl e⟩
  · rw [h3]; exact slAt_flat (fun _ => rfl) (ext_get_new h1)
theorem toInS {H : AHeap} {L : List (Option ABlk)} {k0 : Nat} {v : Value} {wl : List ByteArray} (h : Lst H L 1 s1 k0 v wl) : ∃ x : Sz, v = .slice x.p x.l.length x.c ∧ x.l = wl ∧ InS H L x := by
  rcases h.out with ⟨rfl, rfl⟩ | ⟨hne, k, _, rfl, hL⟩
  · exact ⟨⟨none, 0, []⟩, rfl, rfl, .inl ⟨rfl, rfl⟩⟩
  · exact ⟨⟨some ⟨nb H k, 0, none⟩, wl.length, wl⟩, rfl, rfl, .inr ⟨k, hL, hne, rfl⟩⟩
theorem words_ne {wl : List ByteArray} {outs : List Sz} (h : wl ≠ []) (h2 : outs ≠ []) : ABlk.cells (wl.flatMap s1) 1 true false ≠ .cells (outs.flatMap sz) 1 true false := by
  cases wl with
  | nil => exact absurd rfl h
  | cons a t => cases outs with
    | nil => exact absurd rfl h2
    | cons b u =>
      intro e
      injection e with e1
      simp [sz] at e1

def part1 (d : List Sz) (n i : Nat) : List ByteArray := if 0 < i then ((dl d)[i - 1]?.getD []).drop (((dl d)[i - 1]?.getD []).length - n) else []
theorem dl_get {d : List Sz} {i : Nat} (h : i < d.length) : (dl d)[i]?.getD [] = d[i].l := by simp [h]
theorem part1_at {d : List Sz} {n i : Nat} (h0 : 0 < i) (h : i - 1 < d.length) : part1 d n i = d[i - 1].l.drop (d[i - 1].l.length - n) := by
  unfold part1
  rw [if_pos h0, dl_get h]
theorem pro_at {d : List Sz} {n i fr to : Nat} (h : i < d.length) (hf : fr = if 0 < i then n else 0) (ht : to = d[i].l.length - if i + 1 < d.length then n else 0) : proL (dl d) n i = part1 d n i ++ ((d[i].l.take to).drop fr ++ if i + 1 < d.length then ((dl d)[i + 1]?.getD []).take n else []) := by
  have hel : (dl d).length = d.length := List.length_map _
  unfold proL part1
  rw [dl_get h, ← hf, hel, ← ht]

end Go.Proofs.YtiggikjbknoohaaGreatDoor
