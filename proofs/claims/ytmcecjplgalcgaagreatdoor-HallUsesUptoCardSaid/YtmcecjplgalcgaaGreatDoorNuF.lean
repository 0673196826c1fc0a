/- Contracts of the library, at this program. -/
import Derived.Shelf.Strings.Builder1
import Derived.Shelf.Strings.Builder2
import Derived.Shelf.Small.Bits
import Derived.Shelf.Strings.BuilderF
import Derived.Shelf.Strings.Builder2Cap
import Derived.Shelf.Strconv.Itoa0
import Derived.Shelf.Strconv.Itoa1
import Derived.Shelf.LaysM
import Derived.Shelf.Strconv.Itoa2
import Derived.Shelf.Strconv.Itoa3
import Derived.Shelf.Sort.Plain
import Derived.Shelf.Strings.Prefix
import Derived.Shelf.Bits.Mul64
import Derived.Ground.Names2Prog
import Derived.Shelf.Slices.CompactI
import Derived.Shelf.Slices.CompactS
import Derived.Shelf.Slices.SearchI
import Derived.Shelf.Slices.Cells
import Derived.Shelf.Slices.In.SortNone
import Derived.Test.YtmcecjplgalcgaaGreatDoorProg
import Derived.Test.YtmcecjplgalcgaaGreatDoorSxZ
import Derived.Test.YtmcecjplgalcgaaGreatDoorPrL
import Derived.Test.YtmcecjplgalcgaaGreatDoorHaB
import Derived.Lib.ItoaNum
import Derived.Test.YtmcecjplgalcgaaGreatDoorSxK
import Derived.Test.YtmcecjplgalcgaaGreatDoorNuA
namespace Go.Proofs
open Go.Shelf
def Tryz.laysM171_ren : Go.Shelf.Ren := ⟨fun | 171 => 218 | 243 => 235 | 246 => 251 | 283 => 254 | 284 => 255 | 285 => 256 | 286 => 257 | 129 => 172 | 317 => 260 | 318 => 261 | 319 => 262 | 320 => 263 | 337 => 265 | 338 => 266 | n => n, fun | 3 => 3 | 9 => 9 | 2 => 2 | 4 => 4 | 171 => 314 | 0 => 0 | 53 => 201 | 37 => 290 | 5 => 5 | 173 => 316 | 212 => 322 | 51 => 246 | 20 => 20 | 213 => 323 | 46 => 206 | 232 => 325 | 233 => 326 | n => n, fun | 17 => 2 | 18 => 4 | 19 => 5 | n => n⟩
theorem Tryz.laysM171 : Go.Proofs.LaysM.n171 Tryz.prog Tryz.laysM171_ren := {
 mixed := by kernel_rfl
 f129 := Tryz.func172.trans (congrArg some (by kernel_rfl))
 f171 := Tryz.func218.trans (congrArg some (by kernel_rfl))
 f243 := Tryz.func235.trans (congrArg some (by kernel_rfl))
 f246 := Tryz.func251.trans (congrArg some (by kernel_rfl))
 f283 := Tryz.func254.trans (congrArg some (by kernel_rfl))
 f284 := Tryz.func255.trans (congrArg some (by kernel_rfl))
 f285 := Tryz.func256.trans (congrArg some (by kernel_rfl))
 f286 := Tryz.func257.trans (congrArg some (by kernel_rfl))
 f317 := Tryz.func260.trans (congrArg some (by kernel_rfl))
 f318 := Tryz.func261.trans (congrArg some (by kernel_rfl))
 f319 := Tryz.func262.trans (congrArg some (by kernel_rfl))
 f320 := Tryz.func263.trans (congrArg some (by kernel_rfl))
 f337 := Tryz.func265.trans (congrArg some (by kernel_rfl))
 f338 := Tryz.func266.trans (congrArg some (by kernel_rfl))
 t0 := Tryz.underlying0
 a0 := Tryz.isAgg0
 z0 := Tryz.sizeOf0
 v0 := Tryz.zeroValue0
 t2 := Tryz.underlying2
 a2 := Tryz.isAgg2
 z2 := Tryz.sizeOf2
 v2 := Tryz.zeroValue2
 t3 := Tryz.underlying3
 a3 := Tryz.isAgg3
 z3 := Tryz.sizeOf3
 v3 := Tryz.zeroValue3
 t4 := Tryz.underlying4
 a4 := Tryz.isAgg4
 z4 := Tryz.sizeOf4
 v4 := Tryz.zeroValue4
 t5 := Tryz.underlying5
 a5 := Tryz.isAgg5
 z5 := Tryz.sizeOf5
 v5 := Tryz.zeroValue5
 t9 := Tryz.underlying9
 a9 := Tryz.isAgg9
 z9 := Tryz.sizeOf9
 v9 := Tryz.zeroValue9
 t20 := Tryz.underlying20
 a20 := Tryz.isAgg20
 z20 := Tryz.sizeOf20
 v20 := Tryz.zeroValue20
 t37 := Tryz.underlying290
 a37 := Tryz.isAgg290
 z37 := Tryz.sizeOf290
 v37 := Tryz.zeroValue290
 t46 := Tryz.underlying206
 a46 := Tryz.isAgg206
 z46 := Tryz.sizeOf206
 v46 := Tryz.zeroValue206
 t51 := Tryz.underlying246
 a51 := Tryz.isAgg246
 z51 := Tryz.sizeOf246
 v51 := Tryz.zeroValue246
 t53 := Tryz.underlying201
 a53 := Tryz.isAgg201
 z53 := Tryz.sizeOf201
 v53 := Tryz.zeroValue201
 t171 := Tryz.underlying314
 a171 := Tryz.isAgg314
 z171 := Tryz.sizeOf314
 v171 := Tryz.zeroValue314
 t173 := Tryz.underlying316
 a173 := Tryz.isAgg316
 z173 := Tryz.sizeOf316
 v173 := Tryz.zeroValue316
 t212 := Tryz.underlying322
 a212 := Tryz.isAgg322
 z212 := Tryz.sizeOf322
 v212 := Tryz.zeroValue322
 t213 := Tryz.underlying323
 a213 := Tryz.isAgg323
 z213 := Tryz.sizeOf323
 t232 := Tryz.underlying325
 a232 := Tryz.isAgg325
 z232 := Tryz.sizeOf325
 v232 := Tryz.zeroValue325
 t233 := Tryz.underlying326
 a233 := Tryz.isAgg326
 z233 := Tryz.sizeOf326
 v233 := Tryz.zeroValue326
 g17 := by kernel_rfl
 g18 := by kernel_rfl
 g19 := by kernel_rfl
 i0 := by kernel_rfl
 i2 := by kernel_rfl
 i3 := by kernel_rfl
 i4 := by kernel_rfl
 i5 := by kernel_rfl
 i9 := by kernel_rfl
 i20 := by kernel_rfl
 i37 := by kernel_rfl
 i46 := by kernel_rfl
 i51 := by kernel_rfl
 i53 := by kernel_rfl
 i171 := by kernel_rfl
 i173 := by kernel_rfl
 i212 := by kernel_rfl
 i232 := by kernel_rfl
 i233 := by kernel_rfl
 m17 := by kernel_rfl
 m18 := by kernel_rfl
 m19 := by kernel_rfl }
open Go.RowKit Go.Sort Go.Lib in
theorem Tryz.strconv_Itoa (n : Int) (h0 : -9223372036854775808 ≤ n) (h1 : n ≤ 9223372036854775807) (w : World) (htab : Lib.TabIs Tryz.prog w "internal/strconv.uint64pow10" .u64 Lib.pow10Tab) :
  Calls Tryz.prog 218 #[.int .i64 n] w fun e w' => e = .returned (.string ⟨(Lib.itoa n).toArray⟩) ∧ ∃ k os, w' = grow (w.drewN k) os := Any.strconv_Itoa Tryz.laysM171 n h0 h1 w htab
def Tryz.lays129_ren : Go.Shelf.Ren := ⟨fun | 129 => 172 | n => n, fun | 53 => 201 | 3 => 3 | 4 => 4 | 46 => 206 | 5 => 5 | 9 => 9 | n => n, fun | n => n⟩
theorem Tryz.lays129 : Go.Proofs.Lays.n129 Tryz.prog Tryz.lays129_ren := {
 mixed := by kernel_rfl
 f129 := Tryz.func172.trans (congrArg some (by kernel_rfl))
 t3 := Tryz.underlying3
 a3 := Tryz.isAgg3
 z3 := Tryz.sizeOf3
 v3 := Tryz.zeroValue3
 t4 := Tryz.underlying4
 a4 := Tryz.isAgg4
 z4 := Tryz.sizeOf4
 v4 := Tryz.zeroValue4
 t5 := Tryz.underlying5
 a5 := Tryz.isAgg5
 z5 := Tryz.sizeOf5
 v5 := Tryz.zeroValue5
 t9 := Tryz.underlying9
 a9 := Tryz.isAgg9
 z9 := Tryz.sizeOf9
 v9 := Tryz.zeroValue9
 t46 := Tryz.underlying206
 a46 := Tryz.isAgg206
 z46 := Tryz.sizeOf206
 v46 := Tryz.zeroValue206
 t53 := Tryz.underlying201
 a53 := Tryz.isAgg201
 z53 := Tryz.sizeOf201
 v53 := Tryz.zeroValue201 }
theorem Tryz.bits_Len64 (x : Int) (w : World) (h0 : 0 ≤ x) (h1 : x ≤ 18446744073709551615) :
  Calls Tryz.prog 172 #[.int .u64 x] w fun e w' => e = .returned (.int .i64 (Lib.bitLen x.toNat)) ∧ w' = w := Any.bits_Len64 Tryz.lays129 x w h0 h1
end Go.Proofs
/- The symbolic layer: two lists, a list beside numbers are the result. -/
noncomputable section
namespace Go.Den
section
variable {P : Program} {l : EL} {H : AHeap} {lo : Nat} {L : List (Option ABlk)} {α β : Type} {m m' K K' : Nat} {f : α → List Value} {g : β → List Value} {xs : List α} {ys : List β} {v w : Value}
theorem lstH_fresh_nil : (lstH H m f ([] : List α)).fresh = H.fresh := rfl
theorem lstH_fresh_cons {x : α} {xs : List α} : (lstH H m f (x :: xs)).fresh = H.fresh + 2 := by simp only [lstH, AHeap.add, AHeap.fresh]; omega
theorem fin_lists {Q : Value → AHeap → Prop} {rs : Array ResultVar} (hc : Closed H) (hv : LstI H L m f K v xs) (hw : LstI H L m' g K' w ys) (hne : xs ≠ [] → ys ≠ [] → K ≠ K') (hr : resE l rs.toList = some [v, w]) (hf : ∀ x, (f x).all (flatD 8) = true) (hg : ∀ x, (g x).all (flatD 8) = true)
  (hq : Q (.tuple ⟨[lstV H.fresh xs, lstV (lstH H m f xs).fresh ys]⟩) (lstH (lstH H m f xs) m' g ys)) : Fin P rs H Q ⟨ofA l, [], ext H lo L⟩ := by
 cases xs with
 | nil =>
  rcases hv.out with ⟨_, rfl⟩ | ⟨h, _⟩
  ·cases ys with
   | nil =>
    rcases hw.out with ⟨_, rfl⟩ | ⟨h, _⟩
    ·exact fin_flat hc hr rfl hq
    ·exact absurd rfl h
   | cons y ys =>
    obtain ⟨rfl, hL⟩ := hw.at_ (by simp)
    refine fin_one (k := K') hc hr hL (flat_all hg _) ?_ hq
    simp [packA, renV, renL, lstV, lstP, renOf_one (H := H) ⟨own_iff.1 (nb_own K'), nb_ge K'⟩, lstH_fresh_nil]
  ·exact absurd rfl h
 | cons x xs =>
  obtain ⟨rfl, hL1⟩ := hv.at_ (by simp)
  cases ys with
  | nil =>
   rcases hw.out with ⟨_, rfl⟩ | ⟨h, _⟩
   ·refine fin_one (k := K) hc hr hL1 (flat_all hf _) ?_ hq
    simp [packA, renV, renL, lstV, lstP, renOf_one (H := H) ⟨own_iff.1 (nb_own K), nb_ge K⟩]
   ·exact absurd rfl h
  | cons y ys =>
   obtain ⟨rfl, hL2⟩ := hw.at_ (by simp)
   have hKK := hne (by simp) (by simp)
   obtain ⟨r1, r2⟩ := renOf_two (H := H) ⟨own_iff.1 (nb_own K), nb_ge K⟩ ⟨own_iff.1 (nb_own K'), nb_ge K'⟩ (fun e => hKK (nb_inj.1 e))
   refine fin_two (j := K) (k := K') hc hr hL1 hL2 hKK (flat_all hf _) (flat_all hg _) ?_ hq
   simp [packA, renV, renL, lstV, lstP, r1, r2, lstH_fresh_cons]
end
/-! ### old blocks that are dropped -/
section
variable {P : Program} {l : EL} {H H1 : AHeap} {lo : Nat} {L : List (Option ABlk)}
end
section
variable {P : Program} {rd : Option Nat} {nt : Nat} {ops : Array Oper} {l : EL} {ds : List Nat} {K : St → Prop} {i : Nat} {r : List Oper} {o : Oper} {ty : TypeId} {pos : String} {af : Array Edge} {H : AHeap} {lo : Nat} {L : List (Option ABlk)}
 {Qn : St → Prop} {Qe : Nat → St → Prop} {Qr : St → Prop} {bk : Code}
theorem seq_callH {d : Nat} {c : Call} {f : FuncId} {args : List Value} {v : Value} {h h' h2 : AHeap} (ht : tgtE l c = some (f, args)) (hcall : Ret P f args h v h') (q : HQ h' h2) (hd : Nat.blt d nt = true)
  (hk : SeqL P rd nt ops (o :: r) (i + 1) ⟨ofA ((d, v) :: l), ds, h2⟩ K) : SeqL P rd nt ops (⟨some d, .call c, ty, pos, af, none⟩ :: o :: r) i ⟨ofA l, ds, h⟩ K :=
 seq_call ht hcall hd (seqL_to sub_refl q (by simp) hk)
variable {L0 : List (Option ABlk)} {ow : List Nat} {N : List ABlk}
end
end Go.Den
/- The symbolic layer: a call of the library that turns one row, by its proved contract. -/
noncomputable section
namespace Go.Den
open Go.Sort
theorem vr_eq {Γ : Ga} {v v' : Value} (h : VR Γ v v') (hf : flatC v = true) : v' = v := by
 cases h <;> first | rfl | (simp [flatC] at hf)
theorem rel_grow {Γ : Ga} {H : AHeap} {w : World} (hr : Rel Γ H w) (os : Array Obj) : Rel Γ H (grow w os) ∧ Adv Γ H w Γ H (grow w os) := by
 have old : ∀ r, r < w.heap.size → (grow w os).heap[r]? = w.heap[r]? := fun r h => Go.Sort.heap_grow_old _ _ h
 refine ⟨⟨hr.dom, fun b x hb => ?_, hr.ownd, hr.sep⟩, ⟨fun _ _ => rfl, Nat.le_refl _, ?_, fun r h _ => old r h, fun _ hm => .inr hm, rfl, rfl, rfl, .refl _⟩⟩
 ·obtain ⟨i, o, h1, h2, h3⟩ := hr.blk b x hb
  exact ⟨i, o, h1, by rw [old _ (Array.getElem?_eq_some_iff.1 h2).1]; exact h2, h3⟩
 ·show w.heap.size ≤ (w.heap ++ os).size
  simp
end Go.Den
/- Plain facts: decimal texts, their values, the text of a quotient. -/
noncomputable section
namespace Go.Proofs.YtmcecjplgalcgaaGreatDoor
open Go.Lib
theorem snoc_ind {α : Type} {p : List α → Prop} (h0 : p []) (h1 : ∀ s b, p s → p (s ++ [b])) (s : List α) : p s := by
 have key : ∀ t : List α, p t.reverse := by
  intro t
  induction t with
  | nil => exact h0
  | cons a r ih => rw [List.reverse_cons]; exact h1 _ _ ih
 have := key s.reverse
 rwa [List.reverse_reverse] at this
def valB (s : List UInt8) : Int := s.foldl (fun n b => 10 * n + (b.toNat : Int) - 48) 0
theorem valB_snoc (s : List UInt8) (b : UInt8) : valB (s ++ [b]) = 10 * valB s + (b.toNat : Int) - 48 := by
 simp [valB, List.foldl_append]
def isDig (b : UInt8) : Bool := decide (48 ≤ b.toNat) && decide (b.toNat ≤ 57)
theorem isDig_iff {b : UInt8} : isDig b = true ↔ 48 ≤ b.toNat ∧ b.toNat ≤ 57 := by simp [isDig]
theorem valB_bd : ∀ (s : List UInt8), s.all isDig = true → 0 ≤ valB s ∧ valB s < (10 : Int) ^ s.length := by
 intro s
 induction s using snoc_ind with
 | h0 => intro _; exact ⟨by simp [valB], by simp [valB]⟩
 | h1 s b ih =>
  intro h
  rw [List.all_append, Bool.and_eq_true] at h
  have hb := isDig_iff.1 (List.all_eq_true.1 h.2 b (by simp))
  obtain ⟨h1, h2⟩ := ih h.1
  rw [valB_snoc, List.length_append, List.length_singleton, Int.pow_succ]
  omega
theorem valB_app (s t : List UInt8) : valB (s ++ t) = valB s * (10 : Int) ^ t.length + valB t := by
 induction t using snoc_ind with
 | h0 => simp [valB]
 | h1 t b ih =>
  rw [← List.append_assoc, valB_snoc, ih, valB_snoc, List.length_append, List.length_singleton, Int.pow_succ, ← Int.mul_assoc]
  omega
theorem dig_of (k : Nat) (h : k < 10) : (UInt8.ofNat (48 + k)).toNat = 48 + k := by
 rw [UInt8.toNat_ofNat']; omega
theorem decDigits_val (u : Nat) : valB (decDigits u) = (u : Int) := by
 induction u using Nat.strongRecOn with
 | _ u ih =>
  rw [decDigits]
  split
  ·rename_i h
   have := dig_of u h
   simp only [valB, List.foldl_cons, List.foldl_nil, this]; omega
  ·rename_i h
   rw [valB_snoc, ih (u / 10) (by omega), dig_of (u % 10) (by omega)]
   omega
theorem decDigits_dig (u : Nat) : (decDigits u).all isDig = true := by
 induction u using Nat.strongRecOn with
 | _ u ih =>
  rw [decDigits]
  split
  ·rename_i h
   have := dig_of u h
   simp only [List.all_cons, List.all_nil, Bool.and_true]
   rw [isDig_iff]; omega
  ·rename_i h
   rw [List.all_append, ih (u / 10) (by omega)]
   have := dig_of (u % 10) (by omega)
   simp only [List.all_cons, List.all_nil, Bool.and_true, Bool.true_and]
   rw [isDig_iff]; omega
theorem decDigits_len (u k : Nat) (h : u < 10 ^ k) (hk : 1 ≤ k) : (decDigits u).length ≤ k := by
 rw [decDigits_length]
 induction k generalizing u with
 | zero => omega
 | succ k ih =>
  by_cases h1 : u < 10
  ·rw [nDigits_small h1]; omega
  ·rw [nDigits_big h1]
   rw [Nat.pow_succ] at h
   by_cases hk0 : k = 0
   ·subst hk0; simp at h; omega
   ·have := ih (u / 10) (by omega) (by omega)
    omega
theorem decDigits_pos (u : Nat) : 1 ≤ (decDigits u).length := by rw [decDigits_length]; exact nDigits_pos u
theorem decDigits_len9 {u : Nat} (h : 10 ^ 9 ≤ u) : 9 < (decDigits u).length := by
 have h1 := lt_pow_nDigits u
 rw [decDigits_length]
 rcases Nat.lt_or_ge 9 (nDigits u) with h2 | h2
 ·exact h2
 ·have := Nat.pow_le_pow_right (n := 10) (by omega) h2
  omega
theorem decDigits_len9' {u : Nat} (h : 9 < (decDigits u).length) : 10 ^ 9 ≤ u := by
 rcases Nat.lt_or_ge u (10 ^ 9) with h1 | h1
 ·have := decDigits_len u 9 h1 (by omega); omega
 ·exact h1
theorem decDigits_head (u : Nat) (h : 0 < u) : ∀ b, (decDigits u).head? = some b → b.toNat ≠ 48 := by
 induction u using Nat.strongRecOn with
 | _ u ih =>
  intro b hb
  rw [decDigits] at hb
  split at hb
  ·rename_i h1
   simp only [List.head?_cons, Option.some.injEq] at hb
   subst hb
   rw [dig_of u h1]; omega
  ·rename_i h1
   have hne : decDigits (u / 10) ≠ [] := by
    intro e
    have := decDigits_pos (u / 10)
    rw [e] at this; simp at this
   have hb : (decDigits (u / 10)).head? = some b := by
    rw [List.head?_append] at hb
    cases hc : (decDigits (u / 10)).head? with
    | none => exact absurd (List.head?_eq_none_iff.1 hc) hne
    | some c => rw [hc] at hb; exact hb
   exact ih (u / 10) (by omega) (by omega) b hb
theorem decDigits_parts {u : Nat} (h : 9 < (decDigits u).length) :
  valB ((decDigits u).drop ((decDigits u).length - 9)) = ((u % 1000000000 : Nat) : Int) ∧ valB ((decDigits u).take ((decDigits u).length - 9)) = ((u / 1000000000 : Nat) : Int) := by
 have hv := decDigits_val u
 have hd := decDigits_dig u
 generalize decDigits u = s at h hv hd
 have e := valB_app (s.take (s.length - 9)) (s.drop (s.length - 9))
 rw [List.take_append_drop, hv] at e
 have hl : (s.drop (s.length - 9)).length = 9 := by rw [List.length_drop]; omega
 rw [hl] at e
 rw [← List.take_append_drop (s.length - 9) s, List.all_append, Bool.and_eq_true] at hd
 obtain ⟨b1, b2⟩ := valB_bd _ hd.2
 obtain ⟨b3, _⟩ := valB_bd _ hd.1
 rw [hl] at b2
 generalize valB (s.drop (s.length - 9)) = x at *
 generalize valB (s.take (s.length - 9)) = y at *
 have e9 : (10 : Int) ^ 9 = 1000000000 := by decide
 rw [e9] at e b2
 omega
def slashI : List UInt8 → Nat
 | [] => 0
 | b :: r => if b.toNat = 47 then 0 else slashI r + 1
theorem slashI_dig : ∀ {s : List UInt8}, s.all isDig = true → slashI s = s.length
 | [], _ => rfl
 | b :: r, h => by
  simp only [List.all_cons, Bool.and_eq_true] at h
  have := isDig_iff.1 h.1
  simp only [slashI]
  rw [if_neg (by omega), slashI_dig h.2]; simp
theorem slashI_app : ∀ {s : List UInt8} {t : List UInt8}, s.all isDig = true → slashI (s ++ 47 :: t) = s.length
 | [], t, _ => by simp [slashI]
 | b :: r, t, h => by
  simp only [List.all_cons, Bool.and_eq_true] at h
  have := isDig_iff.1 h.1
  simp only [slashI, List.cons_append]
  rw [if_neg (by omega), slashI_app h.2]; simp
def ratA (u d : Nat) : List UInt8 := if d = 1 then decDigits u else decDigits u ++ 47 :: decDigits d
def ratS (n : Int) (d : Nat) : List UInt8 := if n < 0 then 45 :: ratA n.natAbs d else ratA n.natAbs d
theorem ratS_one (n : Int) : ratS n 1 = itoa n := by
 unfold ratS ratA itoa
 split
 ·rfl
 ·rw [show n.toNat = n.natAbs by omega]; rfl
theorem ratS_more (n : Int) {d : Nat} (h : d ≠ 1) : ratS n d = itoa n ++ 47 :: itoa (d : Int) := by
 unfold ratS ratA itoa
 rw [if_neg (show ¬ ((d : Int) < 0) by omega)]
 simp only [if_neg h, Int.toNat_natCast]
 split
 ·rfl
 ·rw [show n.toNat = n.natAbs by omega]
end Go.Proofs.YtmcecjplgalcgaaGreatDoor
/- The library's numerals and bits, at this program. -/
noncomputable section
namespace Go.Den
open Go.Sort
theorem rel_drew {Γ : Ga} {H : AHeap} {w : World} (hr : Rel Γ H w) (k : Nat) : Rel Γ H (w.drewN k) ∧ Adv Γ H w Γ H (w.drewN k) :=
 ⟨⟨hr.dom, hr.blk, hr.ownd, hr.sep⟩, ⟨fun _ _ => rfl, Nat.le_refl _, Nat.le_refl _, fun _ _ _ => rfl, fun _ h => .inr h, rfl, rfl, rfl, .refl _⟩⟩
theorem glob_cells {B : Nat → Option BB} {Γ : Ga} {H : AHeap} {w : World} (hG : Glo B H) (hr : Rel Γ H w) (hg : Glob Γ) {g : Nat} {cs : List Value} (hB : B g = some (laidBB g cs)) (hlt : g < 1000) (hf : cs.all flatC = true) :
  ∃ e fz, w.heap[g]? = some (.cells cs.toArray e fz) := by
 have h1 := hG g _ hB
 have h2 : H.get (2 * g + 1) = some (.cells cs 0 false true) := by
  rw [AHeap.get_odd _ (by omega), show (2 * g + 1) / 2 = g by omega]; exact h1
 obtain ⟨i, o, k1, k2, k3⟩ := hr.blk _ _ h2
 obtain ⟨i', m1, m2, m3, m4⟩ := hg g hlt
 rw [k1] at m1; cases m1
 obtain ⟨rc, e, fz, rfl, q1, q2, q3, q4, q5, q6, q7, q8⟩ := k3
 rw [m2] at k2
 have hs : rc.size = cs.length := by omega
 have : rc = cs.toArray := by
  refine Array.ext (by simp [hs]) fun j hj hj2 => ?_
  have hj3 : j < cs.length := by simpa using hj2
  obtain ⟨v', n1, n2⟩ := q8 j cs[j] (List.getElem?_eq_getElem hj3)
  have := vr_eq n2 (List.all_eq_true.1 hf _ (List.getElem_mem hj3))
  rw [m3, Nat.zero_add, Array.getElem?_eq_getElem hj, Option.some.injEq] at n1
  simp [n1, this]
 subst this
 exact ⟨e, fz, k2⟩
end Go.Den
namespace Go.Proofs.YtmcecjplgalcgaaGreatDoor
open Go Go.Den Go.Sort
set_option maxRecDepth 100000
theorem pow10_at : B0 2 = some (laidBB 2 cs2) := rfl
theorem pow10_is : (Lib.pow10Tab.map fun z => Value.int .u64 z) = cs2 := by kernel_rfl
theorem pow10_name : Tryz.prog.globalNamed "internal/strconv.uint64pow10" = some 2 := by kernel_rfl
theorem itoa_c {H : AHeap} {n : Int} (hG : Glo B0 H) (h0 : -9223372036854775808 ≤ n) (h1 : n ≤ 9223372036854775807) : Ret Tryz.prog 218 [I n] H (.string (tx (Lib.itoa n))) H := by
 refine ⟨enters_of Tryz.func218 rfl rfl, fun Γ w args' hr hg ha => ?_⟩
 cases ha with
 | cons hv hn =>
  cases hn
  cases hv
  obtain ⟨e, fz, hh⟩ := glob_cells hG hr hg pow10_at (by omega) (by rfl)
  have htab : Lib.TabIs Tryz.prog w "internal/strconv.uint64pow10" .u64 Lib.pow10Tab := by
   unfold Lib.TabIs World.var?
   rw [pow10_name, pow10_is]
   simp only [Option.bind_some, hh]
  refine callsIn_wide.2 ((Tryz.strconv_Itoa n h0 h1 w htab).mono ?_)
  rintro e2 w' ⟨rfl, k, os, rfl⟩
  obtain ⟨r1, a1⟩ := rel_drew hr k
  obtain ⟨r2, a2⟩ := rel_grow r1 os
  exact ⟨_, _, _, Γ, rfl, ⟨rfl, rfl⟩, r2, a1.trans a2, .string _⟩
theorem len64_c {H : AHeap} {x : Int} (h0 : 0 ≤ x) (h1 : x ≤ 18446744073709551615) : Ret Tryz.prog 172 [.int .u64 x] H (I (Lib.bitLen x.toNat : Nat)) H := by
 refine ⟨enters_of Tryz.func172 rfl rfl, fun Γ w args' hr hg ha => ?_⟩
 cases ha with
 | cons hv hn =>
  cases hn
  cases hv
  refine callsIn_wide.2 ((Tryz.bits_Len64 x w h0 h1).mono ?_)
  rintro e2 w' ⟨rfl, rfl⟩
  exact ⟨_, _, _, Γ, rfl, ⟨rfl, rfl⟩, hr, .refl _ _ _, .int _ _⟩
end Go.Proofs.YtmcecjplgalcgaaGreatDoor
