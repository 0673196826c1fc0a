/- LeagueEliminates: the contract over every input, the row's forms, the card. -/
import Derived.Test.YtfegloadbajbhaaGreatDoorElI
import Derived.Test.YtfegloadbajbhaaGreatDoorAwake
import Derived.Test.YtfegloadbajbhaaGreatDoorFnL
import Derived.Test.YtfegloadbajbhaaGreatDoorSxK
import Derived.Laws.RangeString
import Derived.Laws.RangeAny
noncomputable section
namespace Go.Proofs.YtfegloadbajbhaaGreatDoor
open Go Go.Den Go.ChangeShapes Go.WideShapes Go.ChangeAt Go.RowKit Go.Deep
set_option maxRecDepth 10000
noncomputable instance : Inhabited (Int × Int) := ⟨(0, 0)⟩

theorem cellsInt : Tryz.prog.cellsOf 3 = 1 := by decide +kernel
section
variable {H : Type} {enc : TypeId × Value → H} {W : World} {sp : Nat → Bool} {hd : Bool} {fuel : Nat}
end

end Go.Proofs.YtfegloadbajbhaaGreatDoor
/- Plain law: tables. -/
noncomputable section
namespace Go.Proofs.YtfegloadbajbhaaGreatDoor
open Go Go.Den
set_option maxRecDepth 100000

structure Ma where
  home : Int
  away : Int
  fr : Int
  ag : Int
  kind : ByteArray
structure Ru where
  win : Int
  draw : Int
  loss : Int
  frames : Int
structure Rw where
  team : Int
  played : Int
  won : Int
  drawn : Int
  lost : Int
  fr : Int
  ag : Int
  pts : Int
  rank : Int
/-! ### what holds of each row -/
/-- bounds -/
structure RowBd (k : Int) (x : Rw) : Prop where
  played : 0 ≤ x.played ∧ x.played ≤ k
  won : 0 ≤ x.won ∧ x.won ≤ k
  drawn : 0 ≤ x.drawn ∧ x.drawn ≤ k
  lost : 0 ≤ x.lost ∧ x.lost ≤ k
  fr : 0 ≤ x.fr ∧ x.fr ≤ 99 * k
  ag : 0 ≤ x.ag ∧ x.ag ≤ 99 * k
  pts : 0 ≤ x.pts ∧ x.pts ≤ 99 * k
  team : 0 ≤ x.team ∧ x.team ≤ 24
  rank : x.rank = 0
theorem RowBd.le {k j : Int} {x : Rw} (h : RowBd k x) (hk : k ≤ j) : RowBd j x := by
  obtain ⟨h1, h2, h3, h4, h5, h6, h7, h8, h9⟩ := h
  exact ⟨by omega, by omega, by omega, by omega, by omega, by omega, by omega, h8, h9⟩
/-! ### sums over all rows -/
/-! ### how teams are compared -/
abbrev Fg := Int × Int × Int
def figL (x : Rw) : Fg := (x.pts, x.fr - x.ag, x.fr)
def orL (a b : Int) : Int := if a = 0 then b else a
theorem or_assoc (a b c : Int) : orL (orL a b) c = orL a (orL b c) := by
  unfold orL
  by_cases h : a = 0 <;> simp [h]
/-! ### the table -/
end Go.Proofs.YtfegloadbajbhaaGreatDoor
/- The symbolic layer: sets are asked, strings are gone through. -/
noncomputable section
namespace Go.Den
section
variable {P : Program} {α : Type} [DecidableEq α] {f : α → Value} {kt : TypeId} {l : EL} {h : AHeap}

/-- the zero of a type -/
def zeroOf (P : Program) (t : TypeId) : Option Value := match tyOf P t with
  | some ti => match ti.zero with
    | some z => if z.cells.toList.all constOk then some z else none
    | none => none
  | none => none
theorem zeroV_of {t : TypeId} {v : Value} (h : zeroOf P t = some v) : zeroV (ctxOf P) t = some v := by
  unfold zeroOf at h
  split at h
  · rename_i ti hti
    unfold zeroV
    rw [ctx_ty hti]
    exact h
  · cases h
theorem do_rangeStr {t : TypeId} {x : Operand} {s : ByteArray} (hx : ev l x = some (.string s)) (ht : strOf P t = true) : Does P l (.range t x) h (.pointer (some ⟨h.fresh, 0, none⟩)) (h.add (.siter s 0)) := by
  unfold strOf at ht
  split at ht
  · rename_i ti hti
    split at ht
    · rename_i hk
      refine ⟨?_⟩
      simp only [opA, evalA_ofA, hx, rangeA, ctx_ty hti, hk]; rfl
    · cases ht
  · cases ht
theorem do_nextStr {it : Operand} {r pos : Nat} {s : ByteArray} (hi : ev l it = some (.pointer (some ⟨r, 0, none⟩))) (hg : h.get r = some (.siter s pos)) (ho : own r = true) (hp : pos < s.size) :
    Does P l (.next it true) h (.tuple #[.bool true, .int .i64 pos, .int .i32 (Utf8.decode s pos).1]) (h.put r (.siter s (pos + (Utf8.decode s pos).2))) := by
  refine ⟨?_⟩
  simp only [opA, evalA_ofA, hi, nextA, hg, ho]
  simp [hp]; rfl
theorem do_nextEnd {it : Operand} {r pos : Nat} {s : ByteArray} (hi : ev l it = some (.pointer (some ⟨r, 0, none⟩))) (hg : h.get r = some (.siter s pos)) (ho : own r = true) (hp : ¬ pos < s.size) :
    Does P l (.next it true) h (.tuple #[.bool false]) h := by
  refine ⟨?_⟩
  simp only [opA, evalA_ofA, hi, nextA, hg, ho]
  simp [hp]; rfl

/-- the bytes of a text -/
def byteI (s : ByteArray) (i : Nat) : Int := ((s.data.toList[i]?.map fun b => ((b.toNat : Nat) : Int))).getD 0
theorem byte_at {s : ByteArray} {i : Nat} (h : i < s.size) : ∃ b : UInt8, s.data.toList[i]? = some b ∧ s[i]'h = b ∧ byteI s i = ((b.toNat : Nat) : Int) := by
  have hl : i < s.data.toList.length := by simpa using h
  refine ⟨s.data.toList[i], List.getElem?_eq_getElem hl, by simp; rfl, ?_⟩
  unfold byteI
  rw [List.getElem?_eq_getElem hl]; rfl
theorem bytes_eq {a b : ByteArray} : byteL a.data.toList b.data.toList = decide (a = b) := by
  rw [byteL_eq, Bool.eq_iff_iff, beq_iff_eq, decide_eq_true_iff]
  constructor
  · intro e
    cases a; cases b
    simp only [ByteArray.mk.injEq]
    exact Array.toList_inj.1 e
  · intro e; rw [e]
end
section
variable {P : Program} {rd : Option Nat} {nt : Nat} {ops : Array Oper} {l : EL} {ds : List Nat} {K : St → Prop} {i : Nat} {r : List Oper} {ty : TypeId} {pos : String} {af : Array Edge} {H : AHeap} {lo : Nat}
/-- a new block is turned, and something told -/
theorem seq_putV [PC P] {o : Oper} {L : List (Option ABlk)} {d k : Nat} {op : Op} {v : Value} {x : ABlk} (hc : Closed H) (hlt : k < L.length) (hop : Does P l op (ext H lo L) v ((ext H lo L).put (nb H k) x)) (hd : Nat.blt d nt = true)
    (hk : SeqL P rd nt ops (o :: r) (i + 1) ⟨ofA ((d, v) :: l), ds, ext H lo (L.set k (some x))⟩ K) : SeqL P rd nt ops (⟨some d, op, ty, pos, af, none⟩ :: o :: r) i ⟨ofA l, ds, ext H lo L⟩ K :=
  seq_plain hop hd (seqL_to sub_refl (ext_put hc hlt x) (by simp) hk)
end
end Go.Den
namespace Go.Proofs.YtfegloadbajbhaaGreatDoor
open Go Go.Den
set_option maxRecDepth 100000
theorem tyStr : ∃ ti, (ctxOf Tryz.prog).ty.get 9 = some ti ∧ ti.und = .string := ⟨_, ctx_ty rfl, rfl⟩
abbrev strV (s : ByteArray) : Value := .string s
theorem keyStr : KeyOk Tryz.prog 9 strV := by
  obtain ⟨ti, h1, h2⟩ := tyStr
  refine ⟨fun a => ?_, fun a => ?_, fun a b => ?_, fun a => ?_⟩
  · simp [keyOk, chkV, h1, h2, flatC, Value.cells]
  · simp [flatC, Value.cells]
  · simp only [eqV, h1, h2, bytes_eq]
  · simp [sameKey, eqFlat, byteL_eq]
end Go.Proofs.YtfegloadbajbhaaGreatDoor
