/- LeagueMeets: the law's own walk. -/
import Derived.Test.YtiggikjbknoohaaGreatDoorMeL
import Derived.Test.YtiggikjbknoohaaGreatDoorDyB
import Derived.Test.YtiggikjbknoohaaGreatDoorFnI
noncomputable section
namespace Go.Proofs.YtiggikjbknoohaaGreatDoor
open Go Go.Den
set_option maxRecDepth 100000

theorem keyInt : KeyOk Tryz.prog 3 I := by
  obtain ⟨ti, h1, h2⟩ : ∃ ti, (ctxOf Tryz.prog).ty.get 3 = some ti ∧ ti.und = .int .i64 := ⟨_, ctx_ty rfl, rfl⟩
  refine ⟨fun a => ?_, fun a => ?_, fun a b => ?_, fun a => ?_⟩
  · simp [keyOk, chkV, h1, h2, flatC, Value.cells]
  · simp [flatC, Value.cells]
  · simp only [eqV, h1, h2]
    by_cases h : a = b <;> simp [h]
  · simp [sameKey, eqFlat]
theorem zeroInt : zeroOf Tryz.prog 3 = some (.int .i64 0) := rfl
abbrev rM (ks : List (Int × Int)) : ABlk := pairM I I ks
theorem addK_new {α : Type} [DecidableEq α] {k : List α} {a : α} (h : a ∉ k) : addK k a = k ++ [a] := by unfold addK; rw [if_neg h]
theorem nodup_snoc_out {α : Type} {l r : List α} {a : α} (h : (l ++ a :: r).Nodup) : a ∉ l := fun hm => by
  have := (List.nodup_append.1 h).2.2 a hm a (List.mem_cons_self ..)
  exact this rfl
theorem map_out {α β : Type} {f : α → β} {l : List α} {i : Nat} (h : (l.map f).Nodup) (hi : i < l.length) : f l[i] ∉ (l.take i).map f := by
  have e : l.map f = (l.take i).map f ++ f l[i] :: (l.drop (i + 1)).map f := by
    rw [← List.map_cons, ← List.drop_eq_getElem_cons hi, ← List.map_append, List.take_append_drop]
  rw [e] at h
  exact nodup_snoc_out h
theorem busy_out {l : List Fx} {i : Nat} (h : (busyP l).Nodup) (hi : i < l.length) : (l[i].day, l[i].home) ∉ busyP (l.take i) ∧ (l[i].day, l[i].away) ∉ busyP (l.take i) ++ [(l[i].day, l[i].home)] := by
  have e : busyP l = busyP (l.take i) ++ (l[i].day, l[i].home) :: (l[i].day, l[i].away) :: busyP (l.drop (i + 1)) := by
    have : l.take i ++ l[i] :: l.drop (i + 1) = l := by rw [← List.drop_eq_getElem_cons hi, List.take_append_drop]
    have e : busyP (l.take i ++ l[i] :: l.drop (i + 1)) = busyP (l.take i) ++ (l[i].day, l[i].home) :: (l[i].day, l[i].away) :: busyP (l.drop (i + 1)) := by
      unfold busyP
      rw [List.flatMap_append, List.flatMap_cons]; rfl
    rw [this] at e
    exact e
  rw [e] at h
  refine ⟨nodup_snoc_out h, ?_⟩
  have e2 : busyP (l.take i) ++ (l[i].day, l[i].home) :: (l[i].day, l[i].away) :: busyP (l.drop (i + 1)) = (busyP (l.take i) ++ [(l[i].day, l[i].home)]) ++ (l[i].day, l[i].away) :: busyP (l.drop (i + 1)) := by simp
  rw [e2] at h
  exact nodup_snoc_out h
theorem busy_snoc {l : List Fx} {i : Nat} (hi : i < l.length) : busyP (l.take (i + 1)) = busyP (l.take i) ++ [(l[i].day, l[i].home)] ++ [(l[i].day, l[i].away)] := by
  rw [take_snoc hi]
  unfold busyP
  simp only [List.flatMap_append, List.flatMap_cons, List.flatMap_nil, List.append_nil, List.append_assoc]; rfl
end Go.Proofs.YtiggikjbknoohaaGreatDoor
namespace Go.Den
section
variable {P : Program} {l : EL} {h : AHeap} {α : Type} {f : α → List Value} {w : Nat}
/-- the rest of a list, of a block whose room may not be known -/
theorem do_tail {lst : List α} {t : TypeId} {x lo' : Operand} {b c i : Nat} {ag s ro : Bool} {k : IntKind} {cs : List Value} (hx : ev l x = some (.slice (some ⟨b, 0, none⟩) lst.length c)) (hh : ev l lo' = some (.int k i)) (hs : selOf P t = some (w, ag)) (hg : h.get b = some (.cells cs w s ro)) (hc : lst.length ≤ c) (hi : i < lst.length) :
    Does P l (.slice t x (some lo') none none) h (.slice (some ⟨b, i * w, none⟩) (lst.length - i) (c - i)) h := by
  obtain ⟨ti, e, ei, h1, h2, h3, h4, h5⟩ := selOf_spec hs
  have hb : bounds3 lst.length c (some (.int k (i : Int))) none none = some (i, lst.length, c) := by
    simp only [bounds3, bound, Option.isSome_none]
    rw [if_pos ⟨by omega, by omega⟩]
    simp; omega
  have hx2 : eszIs h b w = true := by simp [eszIs, hg]
  refine do_slice (p := some (.int k i)) (q := none) (r := none) hx (by simp only [evO, hh]) rfl rfl ?_
  simp only [sliceA, h1, h2, h3, hb]
  have hcl : ¬ c = i := by omega
  by_cases hi0 : i = 0
  · subst hi0; simp
  · rw [if_neg (by simpa using hi0), if_neg (by simpa using hcl), if_pos (by rw [h4, hx2]; simp), h4, Nat.zero_add]
/-- nothing is left of it -/
theorem do_tailE {lst : List α} {t : TypeId} {x lo' : Operand} {b i : Nat} {ag ro : Bool} {k : IntKind} {cs : List Value} (hx : ev l x = some (.slice (some ⟨b, 0, none⟩) lst.length lst.length)) (hh : ev l lo' = some (.int k i)) (hs : selOf P t = some (w, ag)) (hg : h.get b = some (.cells cs w true ro)) (hl : cs.length = lst.length * w) (hi : i = lst.length) (h0 : 0 < lst.length) :
    Does P l (.slice t x (some lo') none none) h (.slice (some ⟨0, 0, some 1⟩) 0 0) h := by
  obtain ⟨ti, e, ei, h1, h2, h3, h4, h5⟩ := selOf_spec hs
  have hb : bounds3 lst.length lst.length (some (.int k (i : Int))) none none = some (i, lst.length, lst.length) := by
    simp only [bounds3, bound, Option.isSome_none]
    rw [if_pos ⟨by omega, by omega⟩]
    simp; omega
  have hx1 : exactCap h b 0 lst.length = false := by simp [exactCap, hg, hl]
  refine do_slice (p := some (.int k i)) (q := none) (r := none) hx (by simp only [evO, hh]) rfl rfl ?_
  simp only [sliceA, h1, h2, h3, hb]
  subst hi
  rw [if_neg (by simpa using Nat.pos_iff_ne_zero.1 h0)]
  simp [hx1]
theorem appendA_E {tys : Array TypeId} {st : TypeId} {r : List TypeId} {m by' sl sc b0 o0 z : Nat} {ag : Bool} {e : TypeId} {zs : List Value} (hs : selOf P st = some (m, ag)) (he : (tyOf P st).map (·.und) = some (.slice e)) (hz : zerOf P e = some zs) (hby : (tyOf P e).map (·.bytes) = some by')
    (hle : sl ≤ sc) (h1 : (2 * (sl + 0) + 1000) * by' ≤ 2 ^ 48) (h2 : by' ≠ 0) (h3 : m ≠ 0) : appendA (ctxOf P) h (st :: st :: r) (.slice (some ⟨b0, o0, none⟩) sl sc) (.slice (some ⟨0, 0, some z⟩) 0 0) = some (.slice (some ⟨b0, o0, none⟩) sl sc, h) := by
  obtain ⟨ti, e', ei, k1, k2, k3, k4, k5⟩ := selOf_spec hs
  obtain ⟨ez, z1, z2⟩ := zerOf_spec hz
  have he' : e' = e := by
    cases hti : tyOf P st with
    | none => rw [hti] at he; cases he
    | some ti' =>
      rw [hti] at he
      have := ctx_ty hti
      rw [k1] at this; cases this
      simp only [Option.map_some, Option.some.injEq] at he
      rw [k2] at he; cases he; rfl
  subst he'
  rw [k3] at z1; cases z1
  have hby' : ei.bytes = by' := by
    cases hti : tyOf P e' with
    | none => rw [hti] at hby; cases hby
    | some ti' =>
      rw [hti] at hby
      have := ctx_ty hti
      rw [k3] at this; cases this
      simpa using hby
  simp only [appendA, k1, k2, k3, newsA, srcLen, srcCells]
  simp only [beq_self_eq_true, if_true, Nat.zero_mul, List.length_nil]
  rw [if_neg (by
    simp only [Bool.or_eq_true, not_or, decide_eq_true_eq, beq_iff_eq, hby', k4, z2, Option.isNone_some]
    refine ⟨⟨⟨by omega, h2⟩, h3⟩, by simp⟩)]
  simp only [pushA]
  rw [if_pos (by omega)]
  simp
/-- an empty rest is appended -/
theorem do_appendR {args : Array Operand} {tys : Array TypeId} {st : TypeId} {r : List TypeId} {m by' sl sc b0 o0 z : Nat} {ag : Bool} {e : TypeId} {zs : List Value} (ha : evs l args.toList = some [.slice (some ⟨b0, o0, none⟩) sl sc, .slice (some ⟨0, 0, some z⟩) 0 0]) (hty : tys.toList = st :: st :: r)
    (hs : selOf P st = some (m, ag)) (he : (tyOf P st).map (·.und) = some (.slice e)) (hz : zerOf P e = some zs) (hby : (tyOf P e).map (·.bytes) = some by')
    (hle : sl ≤ sc) (h1 : (2 * (sl + 0) + 1000) * by' ≤ 2 ^ 48) (h2 : by' ≠ 0) (h3 : m ≠ 0) :
    Does P l (.call ⟨.builtin .append, args, tys⟩) h (.slice (some ⟨b0, o0, none⟩) sl sc) h := by
  refine do_builtin ha ?_
  rw [hty]
  simp only [biA]
  exact appendA_E (tys := tys) hs he hz hby hle h1 h2 h3
end
end Go.Den
namespace Go.Proofs.YtiggikjbknoohaaGreatDoor
open Go Go.Den
theorem do_mulN {P : Program} {l : EL} {h : AHeap} {x y : Operand} {t t' : TypeId} {a b : Nat} (hx : ev l x = some (.int .i64 (a : Int))) (hy : ev l y = some (.int .i64 (b : Int))) (hr : a * b < 9223372036854775808) : Does P l (.binOp .mul t x y t') h (.int .i64 ((a * b : Nat) : Int)) h := by
  have := do_mul (P := P) (h := h) (t := t) (t' := t') hx hy (by rw [← Int.natCast_mul]; omega)
  rwa [← Int.natCast_mul] at this
theorem foldl_min_le : ∀ (l : List Int) (x : Int), l.foldl min x ≤ x
  | [], x => Int.le_refl _
  | a :: r, x => Int.le_trans (foldl_min_le r (min x a)) (Int.min_le_left ..)
theorem le_foldl_max : ∀ (l : List Int) (x : Int), x ≤ l.foldl max x
  | [], x => Int.le_refl _
  | a :: r, x => Int.le_trans (Int.le_max_left ..) (le_foldl_max r (max x a))
theorem tmod_bd {a b : Int} (hb : 0 < b) : -b < a.tmod b ∧ a.tmod b < b := by
  have h := Int.natAbs_tmod a b
  have h2 := Nat.mod_lt a.natAbs (show 0 < b.natAbs by omega)
  omega
theorem tmod_ix {a : Int} {n : Nat} (hn : 0 < n) : ∃ k : Nat, (a.tmod n + n).tmod n = (k : Int) ∧ k < n := by
  have h := tmod_bd (a := a) (b := n) (by omega)
  rw [Int.tmod_eq_emod_of_nonneg (by omega)]
  have h1 := Int.emod_nonneg (a.tmod n + n) (show (n : Int) ≠ 0 by omega)
  have h2 := Int.emod_lt_of_pos (a.tmod n + n) (show (0 : Int) < n by omega)
  exact ⟨((a.tmod n + n) % n).toNat, by omega, by omega⟩
theorem flat_sl (l : List Fx) : ∀ j (h : j < l.length), sliceIn (l.flatMap fx) (0 + j * 3) 3 = some (fx l[j]) := fun j h => by
  have := pt_flat (w := 3) fx_len h
  simp only [pt] at this
  split at this
  · rename_i x hx
    rw [hx]
    simp only [Option.some.injEq, Value.agg.injEq, Array.mk.injEq] at this
    rw [this]
  · cases this
theorem flat_tail {l : List Fx} {i : Nat} (h : i < l.length) : sliceIn (l.flatMap fx) (i * 3) ((l.length - i) * 3) = some ((l.drop i).flatMap fx) := by
  have := part_from (c := l.length) (i := i) fx_len (flat_sl l) (Nat.le_refl _)
  unfold fromO at this
  rw [if_neg (by omega), Nat.zero_add] at this
  exact this
set_option maxHeartbeats 4000000 in
theorem law15 {H : AHeap} {n left : Int} (haw : ∀ h, Ext H h → Ret Tryz.prog 17 [] h (.bool true) h) : Ret Tryz.prog 15 [I n, I left] H (.bool true) H := by
  refine fn_start Tryz.func15 rfl rfl rfl fun hc => ?_
  apply ct_seq
  apply ct_region
  apply seq_plain; exact do_assign rfl; exact rfl
  apply seq_nil
  apply ct_seq
  apply ct_seq
  apply ct_region
  apply seq_call (ht := rfl); exact haw _ (ext_Ext hc); exact rfl
  apply seq_plain; exact do_unOp rfl rfl; exact rfl
  apply seq_plain; exact do_move rfl; exact rfl
  apply seq_guard (hd := rfl) (hl := rfl); exact do_move rfl; exact rfl
  apply seq_guard (hd := rfl) (hl := rfl); exact do_binInt rfl rfl rfl trivial; exact rfl
  apply seq_plain; exact do_pick_f rfl rfl; exact rfl
  apply seq_plain; exact do_move rfl; exact rfl
  refine seq_gsplit rfl rfl (fun u0 => ?_) (fun u0 => ?_)
  · apply seq_passed (hd := rfl) (hl := rfl) (hb := rfl); exact rfl
    apply seq_passed (hd := rfl) (hl := rfl) (hb := rfl); exact rfl
    apply seq_plain; exact do_pick_t rfl rfl; exact rfl
    apply seq_nil
    refine ct_cond_t rfl rfl ?_
    apply ct_seq
    apply ct_region
    apply seq_call (ht := rfl); exact haw _ (ext_Ext hc); exact rfl
    apply seq_plain; exact do_assign rfl; exact rfl
    apply seq_nil
    apply ct_ret
    exact fin_flat hc rfl rfl ⟨rfl, rfl⟩
  have u0 : decide (n < 2) = false := u0
  apply seq_guard (hd := rfl) (hl := rfl); exact do_move rfl; exact rfl
  apply seq_guard (hd := rfl) (hl := rfl); exact do_binInt rfl rfl rfl trivial; exact rfl
  apply seq_plain; exact do_pick_f rfl rfl; exact rfl
  apply seq_nil
  refine ct_cond rfl (fun u1 => ?_) (fun u1 => ?_)
  · apply ct_seq
    apply ct_region
    apply seq_call (ht := rfl); exact haw _ (ext_Ext hc); exact rfl
    apply seq_plain; exact do_assign rfl; exact rfl
    apply seq_nil
    apply ct_ret
    exact fin_flat hc rfl rfl ⟨rfl, rfl⟩
  have u1 : decide (n > 24) = false := u1
  simp only [decide_eq_false_iff_not] at u0 u1
  obtain ⟨m, rfl⟩ := Int.eq_ofNat_of_zero_le (by omega : 0 ≤ n)
  have h2 : 2 ≤ m := by omega
  have h24 : m ≤ 24 := by omega
  have mf := meetF h2 h24
  have lF := lenF_le h2 h24
  have lD := lenD_le h2 h24
  have hpos : 0 < (genF m).length := by
    have : 2 * 1 ≤ m * (m - 1) := Nat.mul_le_mul h2 (by omega)
    have := mf.twoF; omega
  have hmul : (m : Int) * ((m : Int) - 1) = ((m * (m - 1) : Nat) : Int) := by
    obtain ⟨k, rfl⟩ : ∃ k, m = k + 1 := ⟨m - 1, by omega⟩
    push_cast; simp
  have hmul2 : m * (m - 1) ≤ 24 * 23 := Nat.mul_le_mul h24 (by omega)
  have hmul3 : m * (m - 1) < 9223372036854775808 := by omega
  have c1 := fixtures_c (H := ext H H.fresh []) h2 h24
  rw [lstH_ext, ext_fresh] at c1
  apply ct_skip
  apply ct_seq
  apply ct_region
  apply seq_plain; exact do_move rfl; exact rfl
  apply seq_call (ht := rfl); exact c1; exact rfl
  obtain ⟨L1, hL1⟩ : ∃ L1, L1 = [] ++ lstL 3 fx (genF m) := ⟨_, rfl⟩
  have s1 : SlAt (ext H H.fresh L1) 3 fx (lstP (nb H 0) (genF m)) (genF m) := by rw [hL1]; exact lst_slAt (L := []) fx_len
  rw [← hL1]
  have c2 := double_c (H := ext H H.fresh L1) h2 h24
  rw [lstH_ext, ext_fresh] at c2
  apply seq_plain; exact do_move rfl; exact rfl
  apply seq_plain; exact do_extract rfl rfl; exact rfl
  apply seq_plain; exact do_extract rfl rfl; exact rfl
  apply seq_plain; exact do_assign rfl; exact rfl
  apply seq_plain; exact do_assign rfl; exact rfl
  apply seq_nil
  apply ct_seq
  apply ct_region
  apply seq_plain; exact do_move rfl; exact rfl
  apply seq_call (ht := rfl); exact c2; exact rfl
  obtain ⟨L2, hL2⟩ : ∃ L2, L2 = L1 ++ lstL 3 fx (genD m) := ⟨_, rfl⟩
  have s2 : SlAt (ext H H.fresh L2) 3 fx (lstP (nb H L1.length) (genD m)) (genD m) := by rw [hL2]; exact lst_slAt fx_len
  have s1 : SlAt (ext H H.fresh L2) 3 fx (lstP (nb H 0) (genF m)) (genF m) := by rw [hL2]; exact s1.ext (lst_Ext hc)
  rw [← hL2]
  clear c1 c2
  have ef : (((genF m).length : Int) != ((m * (m - 1) / 2 : Nat) : Int)) = false := by rw [mf.lenF]; simp
  have ed : (((genD m).length : Int) != ((m * (m - 1) : Nat) : Int)) = false := by rw [mf.lenD]; simp
  have nF : ∀ a, lstP (nb H 0) (genF m) = some a → a.spot = none := by
    intro a h
    cases hg : genF m with
    | nil => rw [hg] at hpos; simp at hpos
    | cons x r => rw [hg] at h; simp only [lstP, Option.some.injEq] at h; rw [← h]
  have nD : ∀ a, lstP (nb H L1.length) (genD m) = some a → a.spot = none := by
    intro a h
    cases hg : genD m with
    | nil => rw [hg] at h; simp [lstP] at h
    | cons x r => rw [hg] at h; simp only [lstP, Option.some.injEq] at h; rw [← h]
  have pF : lstP (nb H 0) (genF m) = none → (genF m).length = 0 ∧ (genF m).length = 0 := by
    intro h
    cases hg : genF m with
    | nil => simp
    | cons x r => rw [hg] at h; simp [lstP] at h
  have pD : lstP (nb H L1.length) (genD m) = none → (genD m).length = 0 ∧ (genD m).length = 0 := by
    intro h
    cases hg : genD m with
    | nil => simp
    | cons x r => rw [hg] at h; simp [lstP] at h
  have k1 := checkFixtures58 (n := (m : Int)) (c := (genF m).length) s1 (by omega) (Nat.le_refl _) pF nF (chkF h2 h24)
  have k2 := checkFixtures58 (n := (m : Int)) (c := (genD m).length) s2 (by omega) (Nat.le_refl _) pD nD (chkD h2 h24)
  have e1 : whenL (decide (((metK (genF m)).length : Int) < (m : Int) * ((m : Int) - 1))) 7 = 0 := by
    rw [hmul, metF_len h2 h24]; simp [whenL]
  have e2 : whenL (decide (((metK (genD m)).length : Int) < (m : Int) * ((m : Int) - 1))) 7 = 0 := by
    have := metD_len h2 h24
    rw [hmul]
    have h : ¬ (((metK (genD m)).length : Int) < ((m * (m - 1) : Nat) : Int)) := by omega
    simp only [whenL, decide_eq_false h, Bool.false_eq_true, if_false]
  rw [e1] at k1
  rw [e2] at k2
  obtain ⟨v1, hv1⟩ : ∃ v1, v1 = lstP (nb H 0) (genF m) := ⟨_, rfl⟩
  obtain ⟨v2, hv2⟩ : ∃ v2, v2 = lstP (nb H L1.length) (genD m) := ⟨_, rfl⟩
  have lv1 : lstV (nb H 0) (genF m) = .slice v1 (genF m).length (genF m).length := by rw [hv1]; rfl
  have lv2 : lstV (nb H L1.length) (genD m) = .slice v2 (genD m).length (genD m).length := by rw [hv2]; rfl
  rw [← hv1] at s1 k1 nF pF
  rw [← hv2] at s2 k2 nD pD
  have gF : v1 = some ⟨nb H 0, 0, none⟩ ∧ (ext H H.fresh L2).get (nb H 0) = some (.cells ((genF m).flatMap fx) 3 true false) := by
    obtain ⟨x, r, hx⟩ := List.exists_cons_of_ne_nil (List.length_pos_iff.1 hpos)
    refine ⟨by rw [hv1, hx]; rfl, ext_get_new ?_⟩
    rw [hL2, hL1, hx]; exact getApp rfl
  have lv1' : lstV (nb H ([] : List (Option ABlk)).length) (genF m) = .slice v1 (genF m).length (genF m).length := lv1
  rw [lv1', lv2]
  apply seq_plain; exact do_move rfl; exact rfl
  apply seq_plain; exact do_extract rfl rfl; exact rfl
  apply seq_plain; exact do_extract rfl rfl; exact rfl
  apply seq_plain; exact do_assign rfl; exact rfl
  apply seq_plain; exact do_assign rfl; exact rfl
  apply seq_nil
  apply ct_seq
  apply ct_seq
  apply ct_region
  apply seq_plain; exact do_move rfl; exact rfl
  apply seq_plain; exact do_move rfl; exact rfl
  apply seq_plain; exact do_add rfl rfl (by omega); exact rfl
  apply seq_plain; exact do_binInt rfl rfl rfl trivial; exact rfl
  apply seq_plain; exact do_move rfl; exact rfl
  apply seq_guard (hd := rfl) (hl := rfl); exact do_move rfl; exact rfl
  apply seq_guard (hd := rfl) (hl := rfl); exact do_lenS rfl rfl rfl; exact rfl
  apply seq_guard (hd := rfl) (hl := rfl); exact do_move rfl; exact rfl
  apply seq_guard (hd := rfl) (hl := rfl); exact do_move rfl; exact rfl
  apply seq_guard (hd := rfl) (hl := rfl); exact do_predN rfl rfl (by omega) (by omega); exact rfl
  apply seq_guard (hd := rfl) (hl := rfl); exact do_mulN rfl rfl (by assumption); exact rfl
  apply seq_guard (hd := rfl) (hl := rfl); exact quo2 rfl rfl (by omega); exact rfl
  apply seq_guard (hd := rfl) (hl := rfl); exact do_binInt rfl rfl rfl trivial; exact rfl
  apply seq_plain; exact do_pick_f rfl rfl; exact rfl
  apply seq_plain; exact do_move rfl; exact rfl
  rw [ef]
  apply seq_guard (hd := rfl) (hl := rfl); exact do_move rfl; exact rfl
  apply seq_guard (hd := rfl) (hl := rfl); exact do_lenS rfl rfl rfl; exact rfl
  apply seq_guard (hd := rfl) (hl := rfl); exact do_move rfl; exact rfl
  apply seq_guard (hd := rfl) (hl := rfl); exact do_move rfl; exact rfl
  apply seq_guard (hd := rfl) (hl := rfl); exact do_predN rfl rfl (by omega) (by omega); exact rfl
  apply seq_guard (hd := rfl) (hl := rfl); exact do_mulN rfl rfl (by assumption); exact rfl
  apply seq_guard (hd := rfl) (hl := rfl); exact do_binInt rfl rfl rfl trivial; exact rfl
  apply seq_plain; exact do_pick_f rfl rfl; exact rfl
  apply seq_plain; exact do_move rfl; exact rfl
  rw [ed]
  apply seq_guard (hd := rfl) (hl := rfl); exact do_move rfl; exact rfl
  apply seq_guard (hd := rfl) (hl := rfl); exact do_move rfl; exact rfl
  apply seq_gcall (hg := rfl) (hl := rfl) (ht := rfl); exact k1; exact rfl
  apply seq_guard (hd := rfl) (hl := rfl); exact do_binInt rfl rfl rfl trivial; exact rfl
  apply seq_plain; exact do_pick_f rfl rfl; exact rfl
  apply seq_plain; exact do_move rfl; exact rfl
  apply seq_guard (hd := rfl) (hl := rfl); exact do_move rfl; exact rfl
  apply seq_guard (hd := rfl) (hl := rfl); exact do_move rfl; exact rfl
  apply seq_gcall (hg := rfl) (hl := rfl) (ht := rfl); exact k2; exact rfl
  apply seq_guard (hd := rfl) (hl := rfl); exact do_binInt rfl rfl rfl trivial; exact rfl
  apply seq_plain; exact do_pick_f rfl rfl; exact rfl
  apply seq_nil
  refine ct_cond_f rfl rfl ?_
  refine ct_to (l' := [(0, I m), (1, I left), (5, .slice v1 (genF m).length (genF m).length), (7, .slice v2 (genD m).length (genD m).length)]) (by repeat (first | exact sub_nil | apply sub_cons rfl)) ext_base ?_
  have hcG : Closed (ext H H.fresh L2) := ext_closed hc
  have hEG : Ext H (ext H H.fresh L2) := ext_Ext hc
  obtain ⟨lo, hlo⟩ : ∃ lo, lo = min H.fresh H.fresh := ⟨_, rfl⟩
  rw [← hlo]
  obtain ⟨G, hG⟩ : ∃ G, G = ext H H.fresh L2 := ⟨_, rfl⟩
  rw [← hG] at s1 s2 hcG hEG gF ⊢
  clear k1 k2 lv1 lv1' lv2 hL1 hL2 hG hlo hv1 hv2
  apply ct_skip
  apply ct_seq
  apply ct_region
  apply seq_newM; exact do_makeMap0; exact rfl
  apply seq_newM; exact do_makeMap0; exact rfl
  apply seq_plain; exact do_assign rfl; exact rfl
  apply seq_plain; exact do_assign rfl; exact rfl
  apply seq_nil
  apply ct_seq
  apply ct_region
  apply seq_newM; exact do_makeMap0; exact rfl
  apply seq_plain; exact do_assign rfl; exact rfl
  apply seq_nil
  apply ct_seq
  apply ct_region
  apply seq_newM; exact do_makeMap0; exact rfl
  apply seq_plain; exact do_assign rfl; exact rfl
  apply seq_nil
  apply ct_seq
  apply ct_region
  apply seq_plain; exact do_move rfl; exact rfl
  apply seq_newS; exact mk33 rfl h24; exact rfl
  apply seq_plain; exact do_assign rfl; exact rfl
  apply seq_nil
  apply ct_seq
  apply ct_seq
  apply ct_region
  apply seq_plain; exact do_move rfl; exact rfl
  apply seq_plain; exact do_lenS rfl rfl rfl; exact rfl
  apply seq_plain; exact do_move rfl; exact rfl
  apply seq_nil
  apply ct_block
  apply ct_loop
  refine lt_meas (α := Nat × List (Option ABlk)) (fun a => [(0, I m), (1, I left), (5, .slice v1 (genF m).length (genF m).length), (7, .slice v2 (genD m).length (genD m).length), (9, .map (some (nb G 0))), (10, .map (some (nb G 1))), (11, .map (some (nb G 2))), (12, .map (some (nb G 3))), (13, .slice (some ⟨nb G 4, 0, none⟩) m m), (93, .slice v1 (genF m).length (genF m).length), (94, I (genF m).length), (95, I a.1)])
    (fun a => ext G lo (some (setM prV (((genF m).take a.1).map ordP)) :: some (setM prV []) :: some (rM (roundK ((genF m).take a.1))) :: some (setM prV (busyP ((genF m).take a.1))) :: some (.cells ((tally ((genF m).take a.1) (List.replicate m 0)).map I) 1 false false) :: a.2)) (fun a => a.1 ≤ (genF m).length) (fun a => (genF m).length - a.1) (fun a hi ih => ?_) (0, []) (by simp) (by repeat (first | exact sub_nil | apply sub_cons rfl)) (.refl _)
  obtain ⟨i, R⟩ := a
  simp only at hi ih ⊢
  have ih' := fun i' R' a1 a2 => ih (i', R') a1 a2
  simp only at ih'
  clear ih
  have tlen : ∀ i, (tally ((genF m).take i) (List.replicate m 0)).length = m := fun i => by rw [tally_len]; simp
  apply ct_seq
  apply ct_region
  apply seq_plain; exact do_binInt rfl rfl rfl trivial; exact rfl
  apply seq_nil
  apply ct_seq
  refine ct_cond rfl (fun h1 => ?_) (fun h1 => ?_)
  · simp only [decide_eq_true_eq, Int.ofNat_lt] at h1
    obtain ⟨b, o, cs, z, s, ro, hv1, hg, hw⟩ := s1.out (by intro e; rw [e] at h1; simp at h1)
    subst hv1
    obtain ⟨⟨x1, x2⟩, ⟨x3, x4⟩, ⟨x5, x6⟩, x7⟩ := mf.inf _ (List.getElem_mem h1)
    have a1 : decide ((genF m)[i].home < 0) = false := decide_eq_false (by omega)
    have a2 : decide ((genF m)[i].home ≥ (m : Int)) = false := decide_eq_false (by omega)
    have a3 : decide ((genF m)[i].away < 0) = false := decide_eq_false (by omega)
    have a4 : decide ((genF m)[i].away ≥ (m : Int)) = false := decide_eq_false (by omega)
    have a5 : ((genF m)[i].home == (genF m)[i].away) = false := by simpa using x7
    obtain ⟨b1, b2⟩ := busy_out mf.busyF h1
    apply ct_skip
    apply ct_seq
    apply ct_block
    apply ct_seq
    apply ct_region
    apply seq_plain; exact do_indexAddrS rfl rfl rfl (by exact idx_nat (by omega)); exact rfl
    apply seq_plain; exact do_load rfl (by exact ext_get_old (by assumption) (by assumption)) rfl (by exact pt_sl (by assumption) (by omega)); exact rfl
    apply seq_newP; exact do_alloc rfl rfl; exact rfl
    apply seq_putC (hc := by assumption); rotate_left; exact do_store rfl rfl (by exact ext_get_new List.getElem?_concat_length) rfl rfl (nb_own _); rotate_left; exact (by simp)
    apply ct_seq
    apply ct_seq
    apply ct_region
    apply seq_plain; exact do_fieldAddr rfl rfl; exact rfl
    apply seq_plain; exact do_load rfl (by exact ext_get_new getSetLast) rfl (by exact rfl); exact rfl
    apply seq_plain; exact do_binInt rfl rfl rfl trivial; exact rfl
    apply seq_plain; exact do_move rfl; exact rfl
    rw [a1]
    apply seq_guard (hd := rfl) (hl := rfl); exact do_fieldAddr rfl rfl; exact rfl
    apply seq_guard (hd := rfl) (hl := rfl); exact do_load rfl (by exact ext_get_new getSetLast) rfl (by exact rfl); exact rfl
    apply seq_guard (hd := rfl) (hl := rfl); exact do_move rfl; exact rfl
    apply seq_guard (hd := rfl) (hl := rfl); exact do_binInt rfl rfl rfl trivial; exact rfl
    apply seq_plain; exact do_pick_f rfl rfl; exact rfl
    apply seq_plain; exact do_move rfl; exact rfl
    rw [a2]
    apply seq_guard (hd := rfl) (hl := rfl); exact do_fieldAddr rfl rfl; exact rfl
    apply seq_guard (hd := rfl) (hl := rfl); exact do_load rfl (by exact ext_get_new getSetLast) rfl (by exact rfl); exact rfl
    apply seq_guard (hd := rfl) (hl := rfl); exact do_binInt rfl rfl rfl trivial; exact rfl
    apply seq_plain; exact do_pick_f rfl rfl; exact rfl
    apply seq_plain; exact do_move rfl; exact rfl
    rw [a3]
    apply seq_guard (hd := rfl) (hl := rfl); exact do_fieldAddr rfl rfl; exact rfl
    apply seq_guard (hd := rfl) (hl := rfl); exact do_load rfl (by exact ext_get_new getSetLast) rfl (by exact rfl); exact rfl
    apply seq_guard (hd := rfl) (hl := rfl); exact do_move rfl; exact rfl
    apply seq_guard (hd := rfl) (hl := rfl); exact do_binInt rfl rfl rfl trivial; exact rfl
    apply seq_plain; exact do_pick_f rfl rfl; exact rfl
    apply seq_plain; exact do_move rfl; exact rfl
    rw [a4]
    apply seq_guard (hd := rfl) (hl := rfl); exact do_fieldAddr rfl rfl; exact rfl
    apply seq_guard (hd := rfl) (hl := rfl); exact do_load rfl (by exact ext_get_new getSetLast) rfl (by exact rfl); exact rfl
    apply seq_guard (hd := rfl) (hl := rfl); exact do_fieldAddr rfl rfl; exact rfl
    apply seq_guard (hd := rfl) (hl := rfl); exact do_load rfl (by exact ext_get_new getSetLast) rfl (by exact rfl); exact rfl
    apply seq_guard (hd := rfl) (hl := rfl); exact do_binInt rfl rfl rfl trivial; exact rfl
    apply seq_plain; exact do_pick_f rfl rfl; exact rfl
    apply seq_plain; exact do_move rfl; exact rfl
    rw [a5]
    apply seq_guard (hd := rfl) (hl := rfl); exact do_move rfl; exact rfl
    apply seq_guard (hd := rfl) (hl := rfl); exact do_fieldAddr rfl rfl; exact rfl
    apply seq_guard (hd := rfl) (hl := rfl); exact do_load rfl (by exact ext_get_new getSetLast) rfl (by exact rfl); exact rfl
    apply seq_guard (hd := rfl) (hl := rfl); exact do_fieldAddr rfl rfl; exact rfl
    apply seq_guard (hd := rfl) (hl := rfl); exact do_load rfl (by exact ext_get_new getSetLast) rfl (by exact rfl); exact rfl
    apply seq_guard (hd := rfl) (hl := rfl); exact do_build rfl rfl rfl rfl; exact rfl
    have b3 : ((genF m)[i].day, (genF m)[i].away) ∉ busyP ((genF m).take i) := fun h => b2 (List.mem_append.2 (.inl h))
    apply seq_guard (hd := rfl) (hl := rfl); exact do_setGet (ks := busyP ((genF m).take i)) (a := ((genF m)[i].day, (genF m)[i].home)) (f := prV) rfl rfl (by exact ext_get_new rfl) rfl zeroBool keyPr2; exact rfl
    rw [memK_f b1]
    apply seq_plain; exact do_pick_f rfl rfl; exact rfl
    apply seq_plain; exact do_move rfl; exact rfl
    apply seq_guard (hd := rfl) (hl := rfl); exact do_move rfl; exact rfl
    apply seq_guard (hd := rfl) (hl := rfl); exact do_fieldAddr rfl rfl; exact rfl
    apply seq_guard (hd := rfl) (hl := rfl); exact do_load rfl (by exact ext_get_new getSetLast) rfl (by exact rfl); exact rfl
    apply seq_guard (hd := rfl) (hl := rfl); exact do_fieldAddr rfl rfl; exact rfl
    apply seq_guard (hd := rfl) (hl := rfl); exact do_load rfl (by exact ext_get_new getSetLast) rfl (by exact rfl); exact rfl
    apply seq_guard (hd := rfl) (hl := rfl); exact do_build rfl rfl rfl rfl; exact rfl
    apply seq_guard (hd := rfl) (hl := rfl); exact do_setGet (ks := busyP ((genF m).take i)) (a := ((genF m)[i].day, (genF m)[i].away)) (f := prV) rfl rfl (by exact ext_get_new rfl) rfl zeroBool keyPr2; exact rfl
    rw [memK_f b3]
    apply seq_plain; exact do_pick_f rfl rfl; exact rfl
    apply seq_nil
    refine ct_cond_f rfl rfl ?_
    apply ct_skip
    apply ct_seq
    rw [set_mid rfl]
    obtain ⟨x0, hx0⟩ : ∃ x0 : List (Option ABlk), x0 = some (setM prV (((genF m).take i).map ordP)) :: some (setM prV []) :: some (rM (roundK ((genF m).take i))) :: some (setM prV (busyP ((genF m).take i))) :: some (.cells ((tally ((genF m).take i) (List.replicate m 0)).map I) 1 false false) :: R := ⟨_, rfl⟩
    have gx : ((x0 ++ [some (bx (fx (genF m)[i]))]).set 3 none)[x0.length]? = some (some (bx (fx (genF m)[i]))) := by
      rw [List.getElem?_set_ne (by rw [hx0]; simp)]
      exact List.getElem?_concat_length
    rw [hx0] at gx
    refine ct_drawF (k := 3) hcG (by simp) (by decide +kernel) ?_
    apply sf_free (hfree := rfl) (hnl := rfl); intro _; exact do_move rfl; exact rfl
    apply sf_free (hfree := rfl) (hnl := rfl); intro _; exact do_fieldAddr rfl rfl; exact rfl
    apply sf_off (hc := by assumption) (hfree := rfl) (hLx := rfl) (hnl := rfl); exact do_load rfl (by exact ext_get_new List.getElem?_concat_length) rfl (by exact rfl); exact rfl
    apply sf_free (hfree := rfl) (hnl := rfl); intro _; exact do_fieldAddr rfl rfl; exact rfl
    apply sf_off (hc := by assumption) (hfree := rfl) (hLx := rfl) (hnl := rfl); exact do_load rfl (by exact ext_get_new List.getElem?_concat_length) rfl (by exact rfl); exact rfl
    apply sf_free (hfree := rfl) (hnl := rfl); intro _; exact do_build rfl rfl rfl rfl; exact rfl
    apply sf_free (hfree := rfl) (hnl := rfl); intro _; exact do_move rfl; exact rfl
    apply sf_free (hfree := rfl) (hnl := rfl); intro _; exact do_fieldAddr rfl rfl; exact rfl
    apply sf_off (hc := by assumption) (hfree := rfl) (hLx := rfl) (hnl := rfl); exact do_load rfl (by exact ext_get_new List.getElem?_concat_length) rfl (by exact rfl); exact rfl
    apply sf_free (hfree := rfl) (hnl := rfl); intro _; exact do_fieldAddr rfl rfl; exact rfl
    apply sf_off (hc := by assumption) (hfree := rfl) (hLx := rfl) (hnl := rfl); exact do_load rfl (by exact ext_get_new List.getElem?_concat_length) rfl (by exact rfl); exact rfl
    apply sf_free (hfree := rfl) (hnl := rfl); intro _; exact do_build rfl rfl rfl rfl; exact rfl
    apply sf_turn0 (hc := hcG) (hfree := rfl) (hok := by decide +kernel) (htj := rfl) (hnl := rfl) (hLk := rfl)
    exact do_setAdd (ks := busyP ((genF m).take i)) (a := ((genF m)[i].day, (genF m)[i].home)) (f := prV) rfl rfl rfl (ext_get_new rfl) rfl keyPr2 (nb_own _)
    apply sf_ser0 (k' := 3) (hc := hcG) (hfree := rfl) (hser := by decide +kernel) (hlt := by simp)
    exact do_setAdd (ks := addK (busyP ((genF m).take i)) ((genF m)[i].day, (genF m)[i].home)) (a := ((genF m)[i].day, (genF m)[i].away)) (f := prV) rfl rfl rfl (ext_get_new rfl) rfl keyPr2 (nb_own _)
    apply sd_nil
    apply ct_seq
    apply ct_region
    apply seq_plain; exact do_move rfl; exact rfl
    apply seq_plain; exact do_fieldAddr rfl rfl; exact rfl
    apply seq_plain; exact do_load rfl (by exact ext_get_new (getApp (by assumption))) rfl (by exact rfl); exact rfl
    apply seq_plain; exact do_fieldAddr rfl rfl; exact rfl
    apply seq_plain; exact do_load rfl (by exact ext_get_new (getApp (by assumption))) rfl (by exact rfl); exact rfl
    apply seq_plain; exact do_min rfl; exact rfl
    apply seq_plain; exact do_fieldAddr rfl rfl; exact rfl
    apply seq_plain; exact do_load rfl (by exact ext_get_new (getApp (by assumption))) rfl (by exact rfl); exact rfl
    apply seq_plain; exact do_fieldAddr rfl rfl; exact rfl
    apply seq_plain; exact do_load rfl (by exact ext_get_new (getApp (by assumption))) rfl (by exact rfl); exact rfl
    apply seq_plain; exact do_max rfl; exact rfl
    apply seq_plain; exact do_build rfl rfl rfl rfl; exact rfl
    apply seq_putC (hc := by assumption); rotate_left; exact do_setAdd (ks := ((genF m).take i).map ordP) (a := ordP (genF m)[i]) (f := prV) rfl rfl rfl (by exact ext_get_new rfl) rfl keyPr2 (nb_own _); rotate_left; exact Nat.le_of_ble_eq_true rfl
    apply ct_seq
    apply ct_region
    apply seq_plain; exact do_move rfl; exact rfl
    apply seq_plain; exact do_fieldAddr rfl rfl; exact rfl
    apply seq_plain; exact do_load rfl (by exact ext_get_new (getApp (by assumption))) rfl (by exact rfl); exact rfl
    have hval : ∀ (ks : List (Int × Int)) (a : Int), I ((getK ks a).getD 0) = (getK ks a).elim (I 0) I := by intro ks a; cases getK ks a <;> rfl
    obtain ⟨rb1, rb2⟩ := round_get ((genF m).take i) (genF m)[i].day
    rw [List.length_take] at rb2
    apply seq_plain; exact do_pairGet (ks := roundK ((genF m).take i)) (a := (genF m)[i].day) (f := I) (g := I) (z := I 0) (v := I ((getK (roundK ((genF m).take i)) (genF m)[i].day).getD 0)) rfl rfl (by exact ext_get_new rfl) rfl zeroInt keyInt (hval _ _); exact rfl
    apply seq_plain; exact do_add rfl rfl (by omega); exact rfl
    apply seq_putC (hc := by assumption); rotate_left; exact do_pairPut (ks := roundK ((genF m).take i)) (a := (genF m)[i].day) (b := (getK (roundK ((genF m).take i)) (genF m)[i].day).getD 0 + 1) (f := I) (g := I) rfl rfl rfl (by exact ext_get_new rfl) rfl keyInt (nb_own _); rotate_left; exact Nat.le_of_ble_eq_true rfl
    have hk : (genF m)[i].home.toNat < (tally ((genF m).take i) (List.replicate m 0)).length := by rw [tlen]; omega
    have hv := tally_bound (n := 0) (l := (genF m).take i) (List.replicate m 0) (by simp) _ hk
    rw [List.length_take] at hv
    have tl := tlen i
    apply ct_region
    apply seq_plain; exact do_move rfl; exact rfl
    apply seq_plain; exact do_fieldAddr rfl rfl; exact rfl
    apply seq_plain; exact do_load rfl (by exact ext_get_new (getApp (by assumption))) rfl (by exact rfl); exact rfl
    apply seq_plain; exact do_indexAddrS rfl rfl rfl (by exact idx_int (by omega)); exact rfl
    apply seq_plain; exact do_load rfl (by exact ext_get_new rfl) rfl (by exact pt_map (by omega)); exact rfl
    apply seq_plain; exact do_add rfl rfl (by omega); exact rfl
    apply seq_plain; exact do_indexAddrS rfl rfl rfl (by exact idx_int (by omega)); exact rfl
    apply seq_putC (hc := by assumption); rotate_left; exact do_store rfl rfl (by exact ext_get_new rfl) rfl (stl_map hk rfl rfl) (nb_own _); rotate_left; exact Nat.le_of_ble_eq_true rfl
    apply ct_region
    apply seq_plain; exact do_succ rfl (by omega); exact rfl
    apply seq_plain; exact do_move rfl; exact rfl
    apply seq_nil
    have q1 : ((genF m).take (i + 1)).map ordP = addK (((genF m).take i).map ordP) (ordP (genF m)[i]) := by
      rw [addK_new (map_out mf.ordF h1), take_snoc h1, List.map_append]; rfl
    have q2 : roundK ((genF m).take (i + 1)) = putK (roundK ((genF m).take i)) (genF m)[i].day ((getK (roundK ((genF m).take i)) (genF m)[i].day).getD 0 + 1) := by
      rw [take_snoc h1, roundK_snoc]
    have q3 : busyP ((genF m).take (i + 1)) = addK (addK (busyP ((genF m).take i)) ((genF m)[i].day, (genF m)[i].home)) ((genF m)[i].day, (genF m)[i].away) := by
      rw [busy_snoc h1, addK_new b1, addK_new b2]
    have q4 : tally ((genF m).take (i + 1)) (List.replicate m 0) = (tally ((genF m).take i) (List.replicate m 0)).set (genF m)[i].home.toNat ((tally ((genF m).take i) (List.replicate m 0))[(genF m)[i].home.toNat] + 1) := by
      rw [take_snoc h1, tally_snoc, List.getElem?_eq_getElem hk]; rfl
    have ih := fun R' => ih' (i + 1) R' (by omega) (by omega)
    rw [q1, q2, q3, q4] at ih
    exact lt_to (by repeat (first | exact sub_nil | apply sub_cons rfl)) (.refl _) (ih _)
  · have h1 : i = (genF m).length := by simp at h1; omega
    subst h1
    rw [List.take_length] at *
    clear ih'
    apply ct_exit
    apply exit_eq; exact rfl
    apply ct_seq
    apply ct_seq
    apply ct_region
    apply seq_plain; exact do_move rfl; exact rfl
    obtain ⟨A, hA⟩ : ∃ A : ABlk, A = setM prV ((genF m).map ordP) := ⟨_, rfl⟩
    obtain ⟨D, hD⟩ : ∃ D : ABlk, D = setM prV (busyP (genF m)) := ⟨_, rfl⟩
    obtain ⟨T, hT⟩ : ∃ T, T = tally (genF m) (List.replicate m 0) := ⟨_, rfl⟩
    have hTl : T.length = m := by rw [hT, tally_len]; simp
    rw [← hA, ← hD, ← hT]
    apply seq_newP
    · exact do_rangeMap (es := pairEs I I (roundK (genF m)) 0) (c := (roundK (genF m)).length) (b := false) rfl rfl (by exact ext_get_new rfl)
    · exact rfl
    apply seq_nil
    apply ct_block
    apply ct_loop
    refine lt_meas (α := List Nat) (fun _ => [(0, I m), (1, I left), (5, .slice v1 (genF m).length (genF m).length), (7, .slice v2 (genD m).length (genD m).length), (9, .map (some (nb G 0))), (10, .map (some (nb G 1))), (13, .slice (some ⟨nb G 4, 0, none⟩) m m), (182, .pointer (some ⟨nb G (some A :: some (setM prV []) :: some (rM (roundK (genF m))) :: some D :: some (.cells (T.map I) 1 false false) :: R).length, 0, none⟩))])
      (fun a => ext G lo ((some A :: some (setM prV []) :: some (rM (roundK (genF m))) :: some D :: some (.cells (T.map I) 1 false false) :: R) ++ [some (.miter (some (nb G 2)) (roundK (genF m)).length a (roundK (genF m)).length)])) (fun a => a.Nodup ∧ ∀ j ∈ a, j < (roundK (genF m)).length) (fun a => (roundK (genF m)).length - a.length) (fun a ha ih => ?_) [] ⟨.nil, by simp⟩ (by repeat (first | exact sub_nil | apply sub_cons rfl)) (.refl _)
    obtain ⟨hnd, hlt⟩ := ha
    have hle : a.length ≤ (roundK (genF m)).length := by
      have := nodup_len hnd (m := List.range (roundK (genF m)).length) fun j hj => List.mem_range.2 (hlt j hj)
      simpa using this
    apply ct_seq
    apply ct_region
    refine seq_nextMapE (f := I) (g := I) (ks := roundK (genF m)) (b := false) hcG rfl (by exact ext_get_new (getApp rfl)) rfl (fun hall => ?_) (fun j hj hs => ?_)
    rotate_left
    · have hj2 : (roundK (genF m))[j].2 = ((m / 2 : Nat) : Int) := mf.rounds _ (List.getElem_mem hj)
      have hlt2 : a.length < (roundK (genF m)).length := by
        rcases Nat.lt_or_ge a.length (roundK (genF m)).length with h | h
        · exact h
        · exfalso
          have := nodup_len (k := j :: a) (m := List.range (roundK (genF m)).length) (List.nodup_cons.2 ⟨hs, hnd⟩) fun x hx => by
            rcases List.mem_cons.1 hx with rfl | hx
            · exact List.mem_range.2 hj
            · exact List.mem_range.2 (hlt x hx)
          simp only [List.length_cons, List.length_range] at this
          omega
      apply seq_plain; exact do_extract rfl rfl; exact rfl
      apply seq_nil
      apply ct_seq
      refine ct_cond_t rfl rfl ?_
      apply ct_skip
      apply ct_block
      apply ct_seq
      apply ct_region
      apply seq_plain; exact do_entry (ks := roundK (genF m)) (f := I) (g := I) (b := false) rfl (by exact ext_get_new List.getElem?_concat_length) (by exact ext_get_new (getApp rfl)) hj; exact rfl
      rw [hj2]
      apply seq_plain; exact do_extract rfl rfl; exact rfl
      apply seq_plain; exact do_assign rfl; exact rfl
      apply seq_nil
      apply ct_seq
      apply ct_region
      apply seq_plain; exact do_move rfl; exact rfl
      apply seq_plain; exact do_move rfl; exact rfl
      apply seq_plain; exact quo2 rfl rfl (by omega); exact rfl
      apply seq_plain; exact do_binInt rfl rfl rfl trivial; exact rfl
      apply seq_nil
      refine ct_cond_f rfl (by simp) ?_
      apply ct_skip
      refine lt_to (by repeat (first | exact sub_nil | apply sub_cons rfl)) (.refl _) (ih (a ++ [j]) (by simp only [List.length_append, List.length_singleton]; omega) ⟨?_, ?_⟩)
      · rw [List.nodup_append]
        refine ⟨hnd, by simp, fun x hx y hy e => hs ?_⟩
        rw [List.mem_singleton] at hy
        rw [← hy, ← e]; exact hx
      · intro x hx
        rcases List.mem_append.1 hx with hx | hx
        · exact hlt x hx
        · rw [List.mem_singleton] at hx; rw [hx]; exact hj
    clear ih
    have hm0 : 0 < T.length := by omega
    apply seq_plain; exact do_extract rfl rfl; exact rfl
    apply seq_nil
    apply ct_seq
    refine ct_cond_f rfl rfl ?_
    apply ct_exit
    apply exit_eq; exact rfl
    apply ct_seq
    apply ct_draw (by assumption); decide +kernel
    apply sd_plain (hfree := rfl); intro _; exact do_move rfl; exact rfl
    apply sd_plain (hfree := rfl); intro _; exact do_indexAddrS rfl rfl rfl (by exact idx_int (by omega)); exact rfl
    apply sd_look (hfree := rfl); exact do_load rfl (by exact ext_get_new rfl) rfl (by exact pt_map (by omega)); exact rfl
    apply sd_plain (hfree := rfl); intro _; exact do_move rfl; exact rfl
    apply sd_plain (hfree := rfl); intro _; exact do_indexAddrS rfl rfl rfl (by exact idx_int (by omega)); exact rfl
    apply sd_look (hfree := rfl); exact do_load rfl (by exact ext_get_new rfl) rfl (by exact pt_map (by omega)); exact rfl
    apply sd_plain (hfree := rfl); intro _; exact do_assign rfl; exact rfl
    apply sd_plain (hfree := rfl); intro _; exact do_assign rfl; exact rfl
    apply sd_nil
    apply ct_seq
    apply ct_seq
    apply ct_region
    apply seq_plain; exact do_move rfl; exact rfl
    apply seq_plain; exact do_lenS rfl rfl rfl; exact rfl
    apply seq_plain; exact do_move rfl; exact rfl
    apply seq_nil
    apply ct_block
    apply ct_loop
    obtain ⟨R1, hR1⟩ : ∃ R1, R1 = R ++ [some (ABlk.miter (some (nb G 2)) (roundK (genF m)).length a (roundK (genF m)).length)] := ⟨_, rfl⟩
    have eR : (some A :: some (setM prV []) :: some (rM (roundK (genF m))) :: some D :: some (ABlk.cells (T.map I) 1 false false) :: R) ++ [some (ABlk.miter (some (nb G 2)) (roundK (genF m)).length a (roundK (genF m)).length)] = some A :: some (setM prV ([] : List (Int × Int))) :: some (rM (roundK (genF m))) :: some D :: some (ABlk.cells (T.map I) 1 false false) :: R1 := by rw [hR1]; rfl
    rw [eR]
    clear eR hR1 hall hle hnd hlt
    refine lt_up (fun i => [(0, I m), (1, I left), (5, .slice v1 (genF m).length (genF m).length), (7, .slice v2 (genD m).length (genD m).length), (9, .map (some (nb G 0))), (10, .map (some (nb G 1))), (13, .slice (some ⟨nb G 4, 0, none⟩) m m), (18, I ((T.take i).foldl min T[0])), (19, I ((T.take i).foldl max T[0])), (197, .slice (some ⟨nb G 4, 0, none⟩) m m), (198, I m), (199, I i)]) (fun _ => True) m (fun i hi _ ih => ?_) 0 (by omega) trivial (by repeat (first | exact sub_nil | apply sub_cons rfl))
    apply ct_seq
    apply ct_region
    apply seq_plain; exact do_binInt rfl rfl rfl trivial; exact rfl
    apply seq_nil
    apply ct_seq
    refine ct_cond rfl (fun h1 => ?_) (fun h1 => ?_)
    · simp only [decide_eq_true_eq, Int.ofNat_lt] at h1
      apply ct_skip
      apply ct_seq
      apply ct_block
      apply ct_seq
      apply ct_region
      apply seq_plain; exact do_indexAddrS rfl rfl rfl (by exact idx_nat (by omega)); exact rfl
      apply seq_plain; exact do_load rfl (by exact ext_get_new rfl) rfl (by exact pt_map (by omega)); exact rfl
      apply seq_plain; exact do_assign rfl; exact rfl
      apply seq_nil
      apply ct_region
      apply seq_plain; exact do_move rfl; exact rfl
      apply seq_plain; exact do_move rfl; exact rfl
      apply seq_plain; exact do_min rfl; exact rfl
      apply seq_plain; exact do_move rfl; exact rfl
      apply seq_plain; exact do_move rfl; exact rfl
      apply seq_plain; exact do_max rfl; exact rfl
      apply seq_plain; exact do_assign rfl; exact rfl
      apply seq_plain; exact do_assign rfl; exact rfl
      apply seq_nil
      apply ct_region
      apply seq_plain; exact do_succ rfl (by omega); exact rfl
      apply seq_plain; exact do_move rfl; exact rfl
      apply seq_nil
      have e1 : (T.take (i + 1)).foldl min T[0] = min ((T.take i).foldl min T[0]) T[i] := by rw [take_snoc (by omega), List.foldl_append]; rfl
      have e2 : (T.take (i + 1)).foldl max T[0] = max ((T.take i).foldl max T[0]) T[i] := by rw [take_snoc (by omega), List.foldl_append]; rfl
      have ih := ih (i + 1) (by omega) (by omega) trivial
      rw [e1, e2] at ih
      exact lt_sub (by repeat (first | exact sub_nil | apply sub_cons rfl)) ih
    have h1 : i = m := by simp at h1; omega
    subst h1
    rw [take_all (by omega : T.length ≤ i)]
    have hlo1 : T.foldl min T[0] = leastI T := by unfold leastI; rw [List.getElem?_eq_getElem hm0]; rfl
    have hhi1 : T.foldl max T[0] = mostI T := by unfold mostI; rw [List.getElem?_eq_getElem hm0]; rfl
    rw [hlo1, hhi1]
    clear ih
    apply ct_exit
    apply exit_eq; exact rfl
    apply ct_seq
    apply ct_region
    apply seq_plain; exact do_move rfl; exact rfl
    apply seq_newS; exact mk33 rfl h24; exact rfl
    apply seq_plain; exact do_assign rfl; exact rfl
    apply seq_nil
    apply ct_seq
    apply ct_seq
    apply ct_region
    apply seq_plain; exact do_move rfl; exact rfl
    apply seq_plain; exact do_lenS rfl rfl rfl; exact rfl
    apply seq_plain; exact do_move rfl; exact rfl
    apply seq_nil
    apply ct_block
    apply ct_loop
    simp only [List.map_nil, List.append_nil]
    have tlenD : ∀ j, (tally ((genD i).take j) (List.replicate i 0)).length = i := fun j => by rw [tally_len]; simp
    refine lt_meas (α := Nat × List (Option ABlk)) (fun a => [(0, I i), (1, I left), (5, .slice v1 (genF i).length (genF i).length), (9, .map (some (nb G 0))), (10, .map (some (nb G 1))), (13, .slice (some ⟨nb G 4, 0, none⟩) i i), (18, I (leastI T)), (19, I (mostI T)), (22, .slice (some ⟨nb G (R1.length + 5), 0, none⟩) i i), (212, .slice v2 (genD i).length (genD i).length), (213, I (genD i).length), (214, I a.1)])
      (fun a => ext G lo (some A :: some (setM prV (((genD i).take a.1).map dirP)) :: some (rM (roundK (genF i))) :: some D :: some (.cells (T.map I) 1 false false) :: (R1 ++ some (.cells ((tally ((genD i).take a.1) (List.replicate i 0)).map I) 1 false false) :: a.2))) (fun a => a.1 ≤ (genD i).length) (fun a => (genD i).length - a.1) (fun a hi ih => ?_) (0, []) (by simp) (by repeat (first | exact sub_nil | apply sub_cons rfl)) (.refl _)
    obtain ⟨j, R2⟩ := a
    simp only at hi ih ⊢
    have ih' := fun j' R' a1 a2 => ih (j', R') a1 a2
    simp only at ih'
    clear ih
    apply ct_seq
    apply ct_region
    apply seq_plain; exact do_binInt rfl rfl rfl trivial; exact rfl
    apply seq_nil
    apply ct_seq
    refine ct_cond rfl (fun h1 => ?_) (fun h1 => ?_)
    · simp only [decide_eq_true_eq, Int.ofNat_lt] at h1
      obtain ⟨b, o, cs, z, s, ro, hv2, hg, hw⟩ := s2.out (by intro e; rw [e] at h1; simp at h1)
      subst hv2
      obtain ⟨⟨x1, x2⟩, ⟨x3, x4⟩, ⟨x5, x6⟩, x7⟩ := mf.ind _ (List.getElem_mem h1)
      have a1 : decide ((genD i)[j].home < 0) = false := decide_eq_false (by omega)
      have a2 : decide ((genD i)[j].home ≥ (i : Int)) = false := decide_eq_false (by omega)
      have a3 : decide ((genD i)[j].away < 0) = false := decide_eq_false (by omega)
      have a4 : decide ((genD i)[j].away ≥ (i : Int)) = false := decide_eq_false (by omega)
      have a5 : ((genD i)[j].home == (genD i)[j].away) = false := by simpa using x7
      apply ct_skip
      apply ct_seq
      apply ct_block
      apply ct_seq
      apply ct_region
      apply seq_plain; exact do_indexAddrS rfl rfl rfl (by exact idx_nat (by omega)); exact rfl
      apply seq_plain; exact do_load rfl (by exact ext_get_old (by assumption) (by assumption)) rfl (by exact pt_sl (by assumption) (by omega)); exact rfl
      apply seq_newP; exact do_alloc rfl rfl; exact rfl
      apply seq_putC (hc := by assumption); rotate_left; exact do_store rfl rfl (by exact ext_get_new List.getElem?_concat_length) rfl rfl (nb_own _); rotate_left; exact (by simp)
      apply ct_seq
      apply ct_seq
      apply ct_region
      apply seq_plain; exact do_fieldAddr rfl rfl; exact rfl
      apply seq_plain; exact do_load rfl (by exact ext_get_new getSetLast) rfl (by exact rfl); exact rfl
      apply seq_plain; exact do_binInt rfl rfl rfl trivial; exact rfl
      apply seq_plain; exact do_move rfl; exact rfl
      rw [a1]
      apply seq_guard (hd := rfl) (hl := rfl); exact do_fieldAddr rfl rfl; exact rfl
      apply seq_guard (hd := rfl) (hl := rfl); exact do_load rfl (by exact ext_get_new getSetLast) rfl (by exact rfl); exact rfl
      apply seq_guard (hd := rfl) (hl := rfl); exact do_move rfl; exact rfl
      apply seq_guard (hd := rfl) (hl := rfl); exact do_binInt rfl rfl rfl trivial; exact rfl
      apply seq_plain; exact do_pick_f rfl rfl; exact rfl
      apply seq_plain; exact do_move rfl; exact rfl
      rw [a2]
      apply seq_guard (hd := rfl) (hl := rfl); exact do_fieldAddr rfl rfl; exact rfl
      apply seq_guard (hd := rfl) (hl := rfl); exact do_load rfl (by exact ext_get_new getSetLast) rfl (by exact rfl); exact rfl
      apply seq_guard (hd := rfl) (hl := rfl); exact do_binInt rfl rfl rfl trivial; exact rfl
      apply seq_plain; exact do_pick_f rfl rfl; exact rfl
      apply seq_plain; exact do_move rfl; exact rfl
      rw [a3]
      apply seq_guard (hd := rfl) (hl := rfl); exact do_fieldAddr rfl rfl; exact rfl
      apply seq_guard (hd := rfl) (hl := rfl); exact do_load rfl (by exact ext_get_new getSetLast) rfl (by exact rfl); exact rfl
      apply seq_guard (hd := rfl) (hl := rfl); exact do_move rfl; exact rfl
      apply seq_guard (hd := rfl) (hl := rfl); exact do_binInt rfl rfl rfl trivial; exact rfl
      apply seq_plain; exact do_pick_f rfl rfl; exact rfl
      apply seq_plain; exact do_move rfl; exact rfl
      rw [a4]
      apply seq_guard (hd := rfl) (hl := rfl); exact do_fieldAddr rfl rfl; exact rfl
      apply seq_guard (hd := rfl) (hl := rfl); exact do_load rfl (by exact ext_get_new getSetLast) rfl (by exact rfl); exact rfl
      apply seq_guard (hd := rfl) (hl := rfl); exact do_fieldAddr rfl rfl; exact rfl
      apply seq_guard (hd := rfl) (hl := rfl); exact do_load rfl (by exact ext_get_new getSetLast) rfl (by exact rfl); exact rfl
      apply seq_guard (hd := rfl) (hl := rfl); exact do_binInt rfl rfl rfl trivial; exact rfl
      apply seq_plain; exact do_pick_f rfl rfl; exact rfl
      apply seq_nil
      rw [a5]
      skip
      refine ct_cond_f rfl rfl ?_
      rw [set_mid rfl]
      apply ct_skip
      apply ct_seq
      apply ct_region
      apply seq_plain; exact do_move rfl; exact rfl
      apply seq_plain; exact do_fieldAddr rfl rfl; exact rfl
      apply seq_plain; exact do_load rfl (by exact ext_get_new List.getElem?_concat_length) rfl (by exact rfl); exact rfl
      apply seq_plain; exact do_fieldAddr rfl rfl; exact rfl
      apply seq_plain; exact do_load rfl (by exact ext_get_new List.getElem?_concat_length) rfl (by exact rfl); exact rfl
      apply seq_plain; exact do_build rfl rfl rfl rfl; exact rfl
      have hout := map_out mf.dirD h1
      obtain ⟨x0, hx0⟩ : ∃ x0 : Fx, x0 = (genD i)[j] := ⟨_, rfl⟩
      have eK : addK (((genD i).take j).map dirP) (dirP (genD i)[j]) = ((genD i).take (j + 1)).map dirP := by
        rw [addK_new hout, take_snoc h1, List.map_append]; rfl
      obtain ⟨ts, hts⟩ : ∃ ts, ts = tally ((genD i).take j) (List.replicate i 0) := ⟨_, rfl⟩
      have htsl : ts.length = i := by rw [hts]; exact tlenD j
      refine seq_putCE (k := 1) (L' := (some A :: some (setM prV (((genD i).take (j + 1)).map dirP)) :: some (rM (roundK (genF i))) :: some D :: some (.cells (T.map I) 1 false false) :: (R1 ++ some (.cells (ts.map I) 1 false false) :: R2)) ++ [some (bx (fx (genD i)[j]))]) hcG (Nat.le_of_ble_eq_true rfl) (do_setAdd (ks := ((genD i).take j).map dirP) (a := dirP (genD i)[j]) (f := prV) rfl rfl rfl (by exact ext_get_new rfl) rfl keyPr2 (nb_own _)) (by rw [eK, hts]; rfl) ?_
      have gN : ((some A :: some (setM prV (((genD i).take (j + 1)).map dirP)) :: some (rM (roundK (genF i))) :: some D :: some (.cells (T.map I) 1 false false) :: (R1 ++ some (.cells (ts.map I) 1 false false) :: R2)) ++ [some (bx (fx (genD i)[j]))])[R1.length + 5]? = some (some (.cells (ts.map I) 1 false false)) :=
        getApp (show (R1 ++ some (ABlk.cells (ts.map I) 1 false false) :: R2)[R1.length]? = _ from get_mid rfl)
      have hk : (genD i)[j].home.toNat < ts.length := by omega
      have hv := tally_bound (n := 0) (l := (genD i).take j) (List.replicate i 0) (by simp) _ (by rw [← hts]; exact hk)
      simp only [← hts] at hv
      rw [List.length_take] at hv
      have gX : ((some A :: some (setM prV (((genD i).take (j + 1)).map dirP)) :: some (rM (roundK (genF i))) :: some D :: some (.cells (T.map I) 1 false false) :: (R1 ++ some (.cells (ts.map I) 1 false false) :: R2)) ++ [some (bx (fx (genD i)[j]))])[(some A :: some (setM prV (((genD i).take j).map dirP)) :: some (rM (roundK (genF i))) :: some D :: some (.cells (T.map I) 1 false false) :: (R1 ++ some (.cells ((tally ((genD i).take j) (List.replicate i 0)).map I) 1 false false) :: R2)).length]? = some (some (bx (fx (genD i)[j]))) := by
        have e : ∀ (a b c d : Option ABlk) (t t' : Option ABlk) (b' : Option ABlk), (a :: b :: c :: d :: t :: (R1 ++ t' :: R2)).length = (a :: b' :: c :: d :: t :: (R1 ++ some (.cells (ts.map I) 1 false false) :: R2)).length := by intros; simp
        rw [e _ _ _ _ _ _ (some (setM prV (((genD i).take (j + 1)).map dirP)))]
        exact List.getElem?_concat_length
      apply ct_region
      apply seq_plain; exact do_move rfl; exact rfl
      apply seq_plain; exact do_fieldAddr rfl rfl; exact rfl
      apply seq_plain; exact do_load rfl (by exact ext_get_new (by assumption)) rfl (by exact rfl); exact rfl
      apply seq_plain; exact do_indexAddrS rfl rfl rfl (by exact idx_int (by omega)); exact rfl
      apply seq_plain; exact do_load rfl (by exact ext_get_new (by assumption)) rfl (by exact pt_map (by omega)); exact rfl
      apply seq_plain; exact do_add rfl rfl (by omega); exact rfl
      apply seq_plain; exact do_indexAddrS rfl rfl rfl (by exact idx_int (by omega)); exact rfl
      refine seq_putCE (k := R1.length + 5) (L' := (some A :: some (setM prV (((genD i).take (j + 1)).map dirP)) :: some (rM (roundK (genF i))) :: some D :: some (.cells (T.map I) 1 false false) :: (R1 ++ some (.cells ((ts.set (genD i)[j].home.toNat (ts[(genD i)[j].home.toNat] + 1)).map I) 1 false false) :: R2)) ++ [some (bx (fx (genD i)[j]))]) hcG (by simp) (do_store rfl rfl (by exact ext_get_new gN) rfl (stl_map hk rfl rfl) (nb_own _)) ?_ ?_
      · have e : ∀ (t' y : Option ABlk) (q : List (Option ABlk)), (q ++ (R1 ++ t' :: R2) ++ [y]) = (q ++ R1) ++ t' :: (R2 ++ [y]) := by intros; simp
        have e2 := fun (t' t2 y : Option ABlk) (q : List (Option ABlk)) => set_mid (p := q ++ R1) (r := R2 ++ [y]) (a := t') (b := t2) rfl
        simp only [← e] at e2
        have e3 := e2 (some (ABlk.cells (ts.map I) 1 false false)) (some (ABlk.cells ((ts.set (genD i)[j].home.toNat (ts[(genD i)[j].home.toNat] + 1)).map I) 1 false false)) (some (bx (fx (genD i)[j]))) [some A, some (setM prV (((genD i).take (j + 1)).map dirP)), some (rM (roundK (genF i))), some D, some (ABlk.cells (T.map I) 1 false false)]
        exact e3
      apply ct_region
      apply seq_plain; exact do_succ rfl (by omega); exact rfl
      apply seq_plain; exact do_move rfl; exact rfl
      apply seq_nil
      have q4 : tally ((genD i).take (j + 1)) (List.replicate i 0) = ts.set (genD i)[j].home.toNat (ts[(genD i)[j].home.toNat] + 1) := by
        rw [take_snoc h1, tally_snoc, ← hts, List.getElem?_eq_getElem hk]; rfl
      have ih := fun R' => ih' (j + 1) R' (by omega) (by omega)
      rw [q4] at ih
      have eA : (some A :: some (setM prV (((genD i).take (j + 1)).map dirP)) :: some (rM (roundK (genF i))) :: some D :: some (ABlk.cells (T.map I) 1 false false) :: (R1 ++ some (ABlk.cells ((ts.set (genD i)[j].home.toNat (ts[(genD i)[j].home.toNat] + 1)).map I) 1 false false) :: R2)) ++ [some (bx (fx (genD i)[j]))] = some A :: some (setM prV (((genD i).take (j + 1)).map dirP)) :: some (rM (roundK (genF i))) :: some D :: some (ABlk.cells (T.map I) 1 false false) :: (R1 ++ some (ABlk.cells ((ts.set (genD i)[j].home.toNat (ts[(genD i)[j].home.toNat] + 1)).map I) 1 false false) :: (R2 ++ [some (bx (fx (genD i)[j]))])) := by simp
      rw [eA]
      exact lt_to (by repeat (first | exact sub_nil | apply sub_cons rfl)) (.refl _) (ih _)
    · have h1 : j = (genD i).length := by simp at h1; omega
      subst h1
      rw [List.take_length] at *
      clear ih'
      apply ct_exit
      apply exit_eq; exact rfl
      apply ct_seq
      apply ct_seq
      apply ct_region
      apply seq_plain; exact do_move rfl; exact rfl
      apply seq_plain; exact do_lenS rfl rfl rfl; exact rfl
      apply seq_plain; exact do_move rfl; exact rfl
      apply seq_nil
      apply ct_block
      apply ct_loop
      obtain ⟨S, hS⟩ : ∃ S, S = tally (genD i) (List.replicate i 0) := ⟨_, rfl⟩
      have hSl : S.length = i := by rw [hS, tally_len]; simp
      rw [← hS]
      have gS : (some A :: some (setM prV ((genD i).map dirP)) :: some (rM (roundK (genF i))) :: some D :: some (ABlk.cells (T.map I) 1 false false) :: (R1 ++ some (ABlk.cells (S.map I) 1 false false) :: R2))[R1.length + 5]? = some (some (.cells (S.map I) 1 false false)) := show (R1 ++ some (ABlk.cells (S.map I) 1 false false) :: R2)[R1.length]? = _ from get_mid rfl
      refine lt_up (fun k => [(0, I i), (1, I left), (5, .slice v1 (genF i).length (genF i).length), (9, .map (some (nb G 0))), (10, .map (some (nb G 1))), (13, .slice (some ⟨nb G 4, 0, none⟩) i i), (18, I (leastI T)), (19, I (mostI T)), (259, .slice (some ⟨nb G (R1.length + 5), 0, none⟩) i i), (260, I i), (261, I k)]) (fun _ => True) i (fun k hk _ ih => ?_) 0 (by omega) trivial (by repeat (first | exact sub_nil | apply sub_cons rfl))
      apply ct_seq
      apply ct_region
      apply seq_plain; exact do_binInt rfl rfl rfl trivial; exact rfl
      apply seq_nil
      apply ct_seq
      refine ct_cond rfl (fun h3 => ?_) (fun h3 => ?_)
      · simp only [decide_eq_true_eq, Int.ofNat_lt] at h3
        have hkS : k < S.length := by omega
        have hval : S[k] = ((i - 1 : Nat) : Int) := mf.there _ (by rw [← hS]; exact List.getElem_mem hkS)
        apply ct_skip
        apply ct_seq
        apply ct_block
        apply ct_seq
        apply ct_region
        apply seq_plain; exact do_indexAddrS rfl rfl rfl (by exact idx_nat (by omega)); exact rfl
        apply seq_plain; exact do_load rfl (by exact ext_get_new (by assumption)) rfl (by exact pt_map (by omega)); exact rfl
        apply seq_plain; exact do_assign rfl; exact rfl
        apply seq_nil
        apply ct_seq
        apply ct_region
        apply seq_plain; exact do_move rfl; exact rfl
        apply seq_plain; exact do_move rfl; exact rfl
        apply seq_plain; exact do_predN rfl rfl (by omega) (by omega); exact rfl
        apply seq_plain; exact do_binInt rfl rfl rfl trivial; exact rfl
        apply seq_nil
        rw [hval]
        refine ct_cond_f rfl (by simp) ?_
        apply ct_skip
        apply ct_region
        apply seq_plain; exact do_succ rfl (by omega); exact rfl
        apply seq_plain; exact do_move rfl; exact rfl
        apply seq_nil
        exact lt_sub (by repeat (first | exact sub_nil | apply sub_cons rfl)) (ih (k + 1) (by omega) (by omega) trivial)
      clear ih
      apply ct_exit
      apply exit_eq; exact rfl
      apply ct_seq
      apply ct_seq
      apply ct_region
      apply seq_plain; exact do_move rfl; exact rfl
      apply seq_plain; exact do_builtin rfl (bi_lenSet (f := prV) (ks := (genF i).map ordP) rfl (by rw [ext_get_new (x := A) rfl, hA])); exact rfl
      have ef' : (((((genF i).map ordP).length : Nat) : Int) != ((i * (i - 1) / 2 : Nat) : Int)) = false := by rw [List.length_map]; exact ef
      apply seq_plain; exact do_move rfl; exact rfl
      apply seq_plain; exact do_move rfl; exact rfl
      apply seq_plain; exact do_predN rfl rfl (by omega) (by omega); exact rfl
      apply seq_plain; exact do_mulN rfl rfl (by assumption); exact rfl
      apply seq_plain; exact quo2 rfl rfl (by omega); exact rfl
      apply seq_plain; exact do_binInt rfl rfl rfl trivial; exact rfl
      apply seq_plain; exact do_move rfl; exact rfl
      rw [ef']
      apply seq_guard (hd := rfl) (hl := rfl); exact do_move rfl; exact rfl
      apply seq_guard (hd := rfl) (hl := rfl); exact do_builtin rfl (bi_lenSet (f := prV) (ks := (genD i).map dirP) rfl (by exact ext_get_new rfl)); exact rfl
      have ed' : (((((genD i).map dirP).length : Nat) : Int) != ((i * (i - 1) : Nat) : Int)) = false := by rw [List.length_map]; exact ed
      have hlv := mf.level
      rw [← hT] at hlv
      have hl0 : 0 ≤ mostI T - leastI T := by
        have a1 := foldl_min_le T T[0]
        have a2 := le_foldl_max T T[0]
        rw [hlo1] at a1
        rw [hhi1] at a2
        omega
      apply seq_guard (hd := rfl) (hl := rfl); exact do_move rfl; exact rfl
      apply seq_guard (hd := rfl) (hl := rfl); exact do_move rfl; exact rfl
      apply seq_guard (hd := rfl) (hl := rfl); exact do_predN rfl rfl (by omega) (by omega); exact rfl
      apply seq_guard (hd := rfl) (hl := rfl); exact do_mulN rfl rfl (by assumption); exact rfl
      apply seq_guard (hd := rfl) (hl := rfl); exact do_binInt rfl rfl rfl trivial; exact rfl
      apply seq_plain; exact do_pick_f rfl rfl; exact rfl
      apply seq_plain; exact do_move rfl; exact rfl
      rw [ed']
      apply seq_guard (hd := rfl) (hl := rfl); exact do_move rfl; exact rfl
      apply seq_guard (hd := rfl) (hl := rfl); exact do_move rfl; exact rfl
      apply seq_guard (hd := rfl) (hl := rfl); exact do_sub rfl rfl (by omega); exact rfl
      apply seq_guard (hd := rfl) (hl := rfl); exact do_binInt rfl rfl rfl trivial; exact rfl
      apply seq_plain; exact do_pick_f rfl rfl; exact rfl
      apply seq_nil
      rw [decide_eq_false (by omega : ¬ mostI T - leastI T > 1)]
      refine ct_cond_f rfl rfl ?_
      obtain ⟨rfl, gFb⟩ := gF
      obtain ⟨X, hX⟩ : ∃ X, X = (some A :: some (setM prV ((genD i).map dirP)) :: some (rM (roundK (genF i))) :: some D :: some (ABlk.cells (T.map I) 1 false false) :: (R1 ++ some (ABlk.cells (S.map I) 1 false false) :: R2)) := ⟨_, rfl⟩
      have gT : (ext G lo X).get (nb G 4) = some (.cells (T.map I) 1 false false) := by rw [hX]; exact ext_get_new rfl
      have gF2 : (ext G lo X).get (nb H 0) = some (.cells ((genF i).flatMap fx) 3 true false) := ext_Ext hcG _ _ gFb
      rw [← hX]
      clear hX gS s1 s2 gFb
      refine ct_to (l' := [(0, I i), (1, I left), (5, .slice (some ⟨nb H 0, 0, none⟩) (genF i).length (genF i).length), (13, .slice (some ⟨nb G 4, 0, none⟩) i i)]) (by repeat (first | exact sub_nil | apply sub_cons rfl)) ext_base ?_
      have hcG2 : Closed (ext G lo X) := ext_closed hcG
      have hEG2 : Ext H (ext G lo X) := hEG.trans (ext_Ext hcG)
      obtain ⟨lo2, hlo2⟩ : ∃ lo2, lo2 = min lo G.fresh := ⟨_, rfl⟩
      rw [← hlo2]
      obtain ⟨G2, hG2⟩ : ∃ G2, G2 = ext G lo X := ⟨_, rfl⟩
      rw [← hG2] at gT gF2 hcG2 hEG2 ⊢
      clear hG2 hlo2 hcG hEG
      obtain ⟨bf, hbf⟩ : ∃ bf, bf = nb H 0 := ⟨_, rfl⟩
      obtain ⟨bt, hbt⟩ : ∃ bt, bt = nb G 4 := ⟨_, rfl⟩
      rw [← hbf] at gF2 ⊢
      rw [← hbt] at gT ⊢
      have hL0 : ((genF i).length : Int) ≠ 0 := by omega
      obtain ⟨t1, t2⟩ := tmod_bd (a := left) (b := (genF i).length) (by omega)
      obtain ⟨k, hk, hkl⟩ := tmod_ix (a := left) hpos
      apply ct_skip
      apply ct_seq
      apply ct_region
      apply seq_plain; exact do_move rfl; exact rfl
      apply seq_plain; exact do_move rfl; exact rfl
      apply seq_plain; exact do_lenS rfl rfl rfl; exact rfl
      apply seq_plain; exact do_rem rfl rfl (by assumption); exact rfl
      apply seq_plain; exact do_move rfl; exact rfl
      apply seq_plain; exact do_lenS rfl rfl rfl; exact rfl
      apply seq_plain; exact do_add rfl rfl (by omega); exact rfl
      apply seq_plain; exact do_move rfl; exact rfl
      apply seq_plain; exact do_lenS rfl rfl rfl; exact rfl
      apply seq_plain; exact do_rem rfl rfl (by assumption); exact rfl
      apply seq_plain; exact do_assign rfl; exact rfl
      apply seq_nil
      apply ct_seq
      apply ct_draw (by assumption); decide +kernel
      apply sd_newS (hfree := rfl); exact do_buildSlice rfl rfl rfl rfl rfl rfl rfl; exact rfl
      apply sd_plain (hfree := rfl); intro _; exact do_move rfl; exact rfl
      apply sd_plain (hfree := rfl); intro _; exact do_move rfl; exact rfl
      rw [hk]
      skip
      apply sd_look (hfree := rfl); exact do_sliceTo rfl rfl rfl (fun e => by cases e) (fun _ e => by cases e; rfl) (i := k) (by omega); exact rfl
      obtain ⟨Y, hY⟩ : ∃ Y : List Fx, Y = (genF i).take k ++ (genF i).drop (k + 1) := ⟨_, rfl⟩
      have hYl : Y.length + 1 = (genF i).length := by rw [hY, List.length_append, List.length_take, List.length_drop]; omega
      have hYf : Y.flatMap fx = ((genF i).take k).flatMap fx ++ ((genF i).drop (k + 1)).flatMap fx := by rw [hY, List.flatMap_append]
      have one : ∀ l : List Fx, (l.flatMap fx).all oneCell = true := fun l => by
        rw [List.all_eq_true]
        intro x hxm
        obtain ⟨y, _, hy⟩ := List.mem_flatMap.1 hxm
        simp only [fx, List.mem_cons, List.not_mem_nil, or_false] at hy
        rcases hy with rfl | rfl | rfl <;> rfl
      have srcT : sliceIn ((genF i).flatMap fx) 0 (k * 3) = some (((genF i).take k).flatMap fx) := part_to fx_len (flat_sl (genF i)) (by omega)
      refine sd_JX (α := List (Option ABlk) × Nat) (fun a => [(0, I i), (5, .slice (some ⟨bf, 0, none⟩) (genF i).length (genF i).length), (13, .slice (some ⟨bt, 0, none⟩) i i), (27, I k), (28, .slice (some ⟨nb G2 a.2, 0, none⟩) Y.length Y.length)]) (fun a => ext G2 lo2 a.1) (fun a => Y = [] ∨ a.1[a.2]? = some (some (.cells (Y.flatMap fx) 3 true false))) ?_ (fun a ha => ?_)
      · rcases Nat.eq_zero_or_pos k with hk0 | hk0
        · subst hk0
          refine sd_lookM rfl rfl (by decide +kernel) (do_appendZ rfl rfl rfl rfl rfl rfl (ext_get_old hcG2 gF2) (Nat.le_refl _) (Nat.le_of_ble_eq_true rfl) (Nat.ne_of_beq_eq_false rfl) (Nat.ne_of_beq_eq_false rfl)) rfl ?_
          apply sd_plain (hfree := rfl); intro _; exact do_move rfl; exact rfl
          apply sd_plain (hfree := rfl); intro _; exact do_move rfl; exact rfl
          apply sd_plain (hfree := rfl); intro _; exact do_succ rfl (by omega); exact rfl
          by_cases hm : (genF i).length = 0 + 1
          · apply sd_look (hfree := rfl); exact do_tailE (i := 0 + 1) rfl rfl rfl (by exact ext_get_old hcG2 gF2) (len_flat fx_len _) hm.symm hpos; exact rfl
            refine sd_lookM rfl rfl (by decide +kernel) (do_appendR rfl rfl rfl rfl rfl rfl (Nat.le_refl _) (Nat.le_of_ble_eq_true rfl) (Nat.ne_of_beq_eq_false rfl) (Nat.ne_of_beq_eq_false rfl)) rfl ?_
            apply sd_plain (hfree := rfl); intro _; exact do_assign rfl; exact rfl
            apply sd_nil
            have e0 : Y.length = 0 := by omega
            refine jx_of (_, 0) (.inl (List.length_eq_zero_iff.1 e0)) ?_ rfl
            rw [e0]
            (repeat (first | exact sub_nil | apply sub_cons rfl))
          · apply sd_look (hfree := rfl); exact do_tail (i := 0 + 1) rfl rfl rfl (by exact ext_get_old hcG2 gF2) (Nat.le_refl _) (by omega); exact rfl
            refine sd_newSA rfl rfl (by decide +kernel) (do_appendB rfl rfl rfl rfl rfl rfl (ext_get_old hcG2 gF2) (flat_tail (by omega)) (ext_get_new rfl) (Nat.le_trans (Nat.mul_le_mul_right _ (by omega : 2 * (0 + ((genF i).length - (0 + 1))) + 1000 ≤ 3000)) (Nat.le_of_ble_eq_true rfl)) (Nat.ne_of_beq_eq_false rfl) (Nat.ne_of_beq_eq_false rfl) (by omega)) rfl ?_
            apply sd_plain (hfree := rfl); intro _; exact do_assign rfl; exact rfl
            apply sd_nil
            have e0 : (genF i).length - (0 + 1) = Y.length := by omega
            refine jx_of (_, 1) (.inr ?_) ?_ rfl
            · rw [hYf]; rfl
            · rw [← e0]
              (repeat (first | exact sub_nil | apply sub_cons rfl))
        · refine sd_newSA rfl rfl (by decide +kernel) (do_appendB rfl rfl rfl rfl rfl rfl (ext_get_old hcG2 gF2) srcT (ext_get_new rfl) (Nat.le_trans (Nat.mul_le_mul_right _ (by omega : 2 * (0 + k) + 1000 ≤ 3000)) (Nat.le_of_ble_eq_true rfl)) (Nat.ne_of_beq_eq_false rfl) (Nat.ne_of_beq_eq_false rfl) hk0) rfl ?_
          apply sd_plain (hfree := rfl); intro _; exact do_move rfl; exact rfl
          apply sd_plain (hfree := rfl); intro _; exact do_move rfl; exact rfl
          apply sd_plain (hfree := rfl); intro _; exact do_succ rfl (by omega); exact rfl
          by_cases hm : (genF i).length = k + 1
          · apply sd_look (hfree := rfl); exact do_tailE (i := k + 1) rfl rfl rfl (by exact ext_get_old hcG2 gF2) (len_flat fx_len _) hm.symm hpos; exact rfl
            refine sd_lookM rfl rfl (by decide +kernel) (do_appendR rfl rfl rfl rfl rfl rfl (Nat.le_refl _) (Nat.le_trans (Nat.mul_le_mul_right _ (by omega : 2 * (k + 0) + 1000 ≤ 3000)) (Nat.le_of_ble_eq_true rfl)) (Nat.ne_of_beq_eq_false rfl) (Nat.ne_of_beq_eq_false rfl)) rfl ?_
            apply sd_plain (hfree := rfl); intro _; exact do_assign rfl; exact rfl
            apply sd_nil
            have e0 : k = Y.length := by omega
            have e1 : (genF i).drop (k + 1) = [] := by rw [List.drop_eq_nil_iff]; omega
            refine jx_of (_, 1) (.inr ?_) ?_ rfl
            · rw [hYf, e1, List.flatMap_nil, List.append_nil]; rfl
            · rw [← e0]
              (repeat (first | exact sub_nil | apply sub_cons rfl))
          · apply sd_look (hfree := rfl); exact do_tail (i := k + 1) rfl rfl rfl (by exact ext_get_old hcG2 gF2) (Nat.le_refl _) (by omega); exact rfl
            have e0 : k + ((genF i).length - (k + 1)) = Y.length := by omega
            refine sd_repl (k := 1) (j := 4) hcG2 rfl rfl (by decide +kernel) rfl rfl (by decide +kernel) (do_append1 rfl rfl rfl rfl rfl rfl (ext_get_old hcG2 gF2) (flat_tail (by omega)) (ext_get_new rfl) (by rw [len_flat fx_len, List.length_take, Nat.min_eq_left (by omega)]; rfl) (nb_own _) (one _) (Nat.le_trans (Nat.mul_le_mul_right _ (by omega : 2 * (k + ((genF i).length - (k + 1))) + 1000 ≤ 3000)) (Nat.le_of_ble_eq_true rfl)) (Nat.ne_of_beq_eq_false rfl) (Nat.ne_of_beq_eq_false rfl) (by omega)) rfl ?_
            refine se_plain rfl (fun h => do_assign rfl) rfl ?_
            apply se_nil
            refine jx_of (_, 2) (.inr ?_) ?_ rfl
            · rw [hYf]; rfl
            · rw [← e0]
              (repeat (first | exact sub_nil | apply sub_cons rfl))
      obtain ⟨L4, ko⟩ := a
      simp only at ha ⊢
      have hsX : SlAt (ext G2 lo2 L4) 3 fx (some ⟨nb G2 ko, 0, none⟩) Y := by
        rcases ha with h | h
        · rw [h]; exact .nil
        · exact slAt_flat fx_len (ext_get_new h)
      have hch : chkL i Y = 0 := by rw [hY]; exact chkX h2 h24 k
      have c7 := homes56 (n := i) (c := Y.length) hsX (by omega) (Nat.le_refl _) (fun e => by cases e) (fun a e => by cases e; rfl) hch
      rw [ext_add, ext_fresh] at c7
      apply ct_seq
      apply ct_region
      apply seq_plain; exact do_move rfl; exact rfl
      apply seq_plain; exact do_move rfl; exact rfl
      apply seq_call (ht := rfl); exact c7; exact rfl
      apply seq_plain; exact do_move rfl; exact rfl
      apply seq_plain; exact do_extract rfl rfl; exact rfl
      apply seq_plain; exact do_extract rfl rfl; exact rfl
      apply seq_plain; exact do_assign rfl; exact rfl
      apply seq_plain; exact do_assign rfl; exact rfl
      apply seq_nil
      apply ct_seq
      apply ct_draw (by assumption); decide +kernel
      apply sd_plain (hfree := rfl); intro _; exact do_move rfl; exact rfl
      apply sd_plain (hfree := rfl); intro _; exact do_move rfl; exact rfl
      obtain ⟨⟨z1, z2⟩, ⟨z3, z4⟩, _⟩ := mf.inf _ (List.getElem_mem hkl)
      obtain ⟨U, hU⟩ : ∃ U, U = tally Y (List.replicate i 0) := ⟨_, rfl⟩
      have hUl : U.length = i := by rw [hU, tally_len]; simp
      rw [← hU]
      have gH : (L4 ++ [some (ABlk.cells (U.map I) 1 false false)])[L4.length]? = some (some (.cells (U.map I) 1 false false)) := List.getElem?_concat_length
      have hT1 : (genF i)[k].home.toNat < T.length := by omega
      have hU1 : (genF i)[k].home.toNat < U.length := by omega
      have hTb : 0 ≤ T[(genF i)[k].home.toNat] ∧ T[(genF i)[k].home.toNat] ≤ 276 := by
        have h := tally_bound (n := 0) (l := genF i) (List.replicate i 0) (by simp) (genF i)[k].home.toNat (by rw [← hT]; exact hT1)
        simp only [← hT] at h
        omega
      have hEq : U[(genF i)[k].home.toNat] = T[(genF i)[k].home.toNat] - 1 := by
        have h := homeX h2 h24 hkl
        rw [← hY, ← hU, ← hT, List.getElem?_eq_getElem hU1, List.getElem?_eq_getElem hT1] at h
        exact h
      have k8 := checkFixtures58 (n := (i : Int)) (c := Y.length) (hsX.ext (ext_snoc hcG2 (x := .cells (U.map I) 1 false false))) (by omega) (Nat.le_refl _) (fun e => by cases e) (fun a e => by cases e; rfl) hch
      have e8 : whenL (decide (((metK Y).length : Int) < (i : Int) * ((i : Int) - 1))) 7 = 7 := by
        have := metX_len h2 h24 hkl
        rw [← hY] at this
        rw [hmul]
        have h : ((metK Y).length : Int) < ((i * (i - 1) : Nat) : Int) := by omega
        simp only [whenL, decide_eq_true h, if_true]
      rw [e8] at k8
      have k9 : Ret Tryz.prog 58 [I i, .slice (some ⟨nb G2 ko, 0, none⟩) Y.length Y.length] (ext G2 lo2 (L4 ++ [some (ABlk.cells (U.map I) 1 false false)] ++ ([] : List ABlk).map fun _ => none)) (I 7) (ext G2 lo2 (L4 ++ [some (ABlk.cells (U.map I) 1 false false)] ++ ([] : List ABlk).map fun _ => none)) := by
        simpa using k8
      apply sd_call (ht := rfl); exact k9; exact rfl
      apply sd_plain (hfree := rfl); intro _; exact do_binInt rfl rfl rfl trivial; exact rfl
      apply sd_plain (hfree := rfl); intro _; exact do_move rfl; exact rfl
      apply sd_guard (hfree := rfl) (hg := rfl) (hl := rfl); intro _; exact do_move rfl; exact rfl
      apply sd_guard (hfree := rfl) (hg := rfl) (hl := rfl); intro _; exact do_binInt rfl rfl rfl trivial; exact rfl
      apply sd_plain (hfree := rfl); intro _; exact do_pick_t rfl rfl; exact rfl
      apply sd_plain (hfree := rfl); intro _; exact do_move rfl; exact rfl
      apply sd_guard (hfree := rfl) (hg := rfl) (hl := rfl); intro _; exact do_move rfl; exact rfl
      apply sd_guardL (hfree := rfl) (hg := rfl) (hl := rfl); exact do_lenS rfl rfl rfl; exact rfl
      apply sd_guard (hfree := rfl) (hg := rfl) (hl := rfl); intro _; exact do_move rfl; exact rfl
      apply sd_guard (hfree := rfl) (hg := rfl) (hl := rfl); intro _; exact do_binInt rfl rfl rfl trivial; exact rfl
      apply sd_plain (hfree := rfl); intro _; exact do_pick_t rfl rfl; exact rfl
      apply sd_plain (hfree := rfl); intro _; exact do_move rfl; exact rfl
      rw [show ((i : Int) == (i : Int)) = true by simp]
      apply sd_guard (hfree := rfl) (hg := rfl) (hl := rfl); intro _; exact do_move rfl; exact rfl
      apply sd_guard (hfree := rfl) (hg := rfl) (hl := rfl); intro _; exact do_move rfl; exact rfl
      apply sd_guard (hfree := rfl) (hg := rfl) (hl := rfl); intro _; exact do_move rfl; exact rfl
      apply sd_guard (hfree := rfl) (hg := rfl) (hl := rfl); intro _; exact do_indexAddrS rfl rfl rfl (by exact idx_nat (by omega)); exact rfl
      apply sd_guard (hfree := rfl) (hg := rfl) (hl := rfl); intro _; exact do_fieldAddr rfl rfl; exact rfl
      apply sd_guardL (hfree := rfl) (hg := rfl) (hl := rfl); exact do_load rfl (by exact ext_get_old (by assumption) (by assumption)) rfl (by exact pt_flat1 (fun _ => rfl) (by omega) rfl); exact rfl
      apply sd_guard (hfree := rfl) (hg := rfl) (hl := rfl); intro _; exact do_indexAddrS rfl rfl rfl (by exact idx_int (by omega)); exact rfl
      apply sd_guardL (hfree := rfl) (hg := rfl) (hl := rfl); exact do_load rfl (by exact ext_get_new (getApp (by assumption))) rfl (by exact pt_map (by omega)); exact rfl
      apply sd_guard (hfree := rfl) (hg := rfl) (hl := rfl); intro _; exact do_move rfl; exact rfl
      apply sd_guard (hfree := rfl) (hg := rfl) (hl := rfl); intro _; exact do_move rfl; exact rfl
      apply sd_guard (hfree := rfl) (hg := rfl) (hl := rfl); intro _; exact do_move rfl; exact rfl
      apply sd_guard (hfree := rfl) (hg := rfl) (hl := rfl); intro _; exact do_indexAddrS rfl rfl rfl (by exact idx_nat (by omega)); exact rfl
      apply sd_guard (hfree := rfl) (hg := rfl) (hl := rfl); intro _; exact do_fieldAddr rfl rfl; exact rfl
      apply sd_guardL (hfree := rfl) (hg := rfl) (hl := rfl); exact do_load rfl (by exact ext_get_old (by assumption) (by assumption)) rfl (by exact pt_flat1 (fun _ => rfl) (by omega) rfl); exact rfl
      apply sd_guard (hfree := rfl) (hg := rfl) (hl := rfl); intro _; exact do_indexAddrS rfl rfl rfl (by exact idx_int (by omega)); exact rfl
      apply sd_guardL (hfree := rfl) (hg := rfl) (hl := rfl); exact do_load rfl (by exact ext_get_old (by assumption) (by assumption)) rfl (by exact pt_map (by omega)); exact rfl
      apply sd_guard (hfree := rfl) (hg := rfl) (hl := rfl); intro _; exact do_sub rfl rfl (by omega); exact rfl
      apply sd_guard (hfree := rfl) (hg := rfl) (hl := rfl); intro _; exact do_binInt rfl rfl rfl trivial; exact rfl
      apply sd_plain (hfree := rfl); intro _; exact do_pick_t rfl rfl; exact rfl
      apply sd_plain (hfree := rfl); intro _; exact do_assign rfl; exact rfl
      apply sd_nil
      apply ct_ret
      refine fin_flatB hc hcG2 hEG2 rfl rfl ⟨?_, rfl⟩
      simp [packA, hEq]
end Go.Proofs.YtiggikjbknoohaaGreatDoor
