/- The symbolic layer: texts as lists of bytes; results in cells that name blocks. -/
import Derived.Test.YtmcecjplgalcgaaGreatDoorPrL
import Derived.Test.YtmcecjplgalcgaaGreatDoorHaB
noncomputable section
namespace Go.Den
/-! ### texts -/
def tx (s : List UInt8) : ByteArray := ⟨s.toArray⟩
theorem tx_size (s : List UInt8) : (tx s).size = s.length := rfl
theorem tx_list (s : List UInt8) : (tx s).data.toList = s := rfl
theorem tx_inj {s t : List UInt8} (h : tx s = tx t) : s = t := by
 have := congrArg (fun b : ByteArray => b.data.toList) h
 exact this
theorem tx_app (s t : List UInt8) : tx s ++ tx t = tx (s ++ t) := by
 have : (tx s ++ tx t).data = (tx (s ++ t)).data := by
  rw [ByteArray.data_append]
  simp [tx]
 cases h1 : tx s ++ tx t with
 | mk a => cases h2 : tx (s ++ t) with
  | mk b => rw [h1, h2] at this; exact congrArg ByteArray.mk this
theorem tx_sub (s : List UInt8) (i j : Nat) : (tx s).extract i j = tx ((s.take j).drop i) := by
 have : ((tx s).extract i j).data = (tx ((s.take j).drop i)).data := by
  rw [ByteArray.data_extract]
  simp [tx, List.drop_take]
 cases h1 : (tx s).extract i j with
 | mk a => cases h2 : tx ((s.take j).drop i) with
  | mk b => rw [h1, h2] at this; exact congrArg ByteArray.mk this
section
variable {P : Program} {l : EL} {h : AHeap}
theorem do_lenB {args : Array Operand} {tys : Array TypeId} {t : TypeId} {r : List TypeId} {s : List UInt8} {vs : List Value} (ha : evs l args.toList = some (.string (tx s) :: vs)) (hty : tys.toList = t :: r) (ht : strOf P t = true) :
  Does P l (.call ⟨.builtin .len, args, tys⟩) h (.int .i64 (s.length : Int)) h := do_lenStr ha hty ht
theorem do_indexB {t : TypeId} {x i : Operand} {j : Nat} {iv : Value} {s : List UInt8} (hx : ev l x = some (.string (tx s))) (hi : ev l i = some iv) (hs : strOf P t = true) (hj : idx iv s.length = some j) (hl : j < s.length) :
  Does P l (.index t x i) h (.int .u8 (s[j].toNat : Int)) h := do_indexStr hx hi hs hj (List.getElem?_eq_getElem hl)
theorem do_strSub {t : TypeId} {x : Operand} {lo hi : Option Operand} {p q : Option Value} {s : List UInt8} {i j m : Nat} (hx : ev l x = some (.string (tx s))) (h1 : evO l lo = some p) (h2 : evO l hi = some q) (hs : strOf P t = true) (hb : bounds3 s.length s.length p q none = some (i, j, m)) :
  Does P l (.slice t x lo hi none) h (.string (tx ((s.take j).drop i))) h := by
 refine do_slice (r := none) hx h1 h2 rfl ?_
 unfold strOf at hs
 unfold sliceA
 split at hs
 ·rename_i ti hti
  split at hs
  ·rename_i hu
   simp only [ctx_ty hti, hu, tx_size, hb, Option.isSome_none, Bool.false_eq_true, if_false, tx_sub]
  ·cases hs
 ·cases hs
theorem do_strFrom {t : TypeId} {x lo : Operand} {s : List UInt8} {a : Int} (i : Nat) (hx : ev l x = some (.string (tx s))) (h1 : ev l lo = some (.int .i64 a)) (hs : strOf P t = true) (ha : a = (i : Int)) (hi : i ≤ s.length) :
  Does P l (.slice t x (some lo) none none) h (.string (tx (s.drop i))) h := by
 subst ha
 have := do_strSub (P := P) (h := h) (lo := some lo) (hi := none) hx (by simp only [evO, h1]) rfl hs (b3_from hi (Nat.le_refl _))
 rwa [List.take_length] at this
theorem do_strTo {t : TypeId} {x hi : Operand} {s : List UInt8} {a : Int} (j : Nat) (hx : ev l x = some (.string (tx s))) (h1 : ev l hi = some (.int .i64 a)) (hs : strOf P t = true) (ha : a = (j : Int)) (hj : j ≤ s.length) :
  Does P l (.slice t x none (some hi) none) h (.string (tx (s.take j))) h := by
 subst ha
 exact do_strSub (P := P) (h := h) (lo := none) (hi := some hi) hx rfl (by simp only [evO, h1]) hs (b3_to hj (Nat.le_refl _))
theorem do_strCat {t t' : TypeId} {x y : Operand} {a b : List UInt8} (hx : ev l x = some (.string (tx a))) (hy : ev l y = some (.string (tx b))) (hn : a.length + b.length ≤ 1000000000000) : Does P l (.binOp .add t x y t') h (.string (tx (a ++ b))) h := by
 refine do_binStr hx hy ?_
 unfold strBin
 rw [← tx_app]
 exact if_pos (show (tx a).size + (tx b).size ≤ 1000000000000 from hn)
theorem do_strEq {t t' : TypeId} {x y : Operand} {a b : List UInt8} (hx : ev l x = some (.string (tx a))) (hy : ev l y = some (.string (tx b))) : Does P l (.binOp .eql t x y t') h (.bool (decide (a = b))) h := by
 refine do_binStr hx hy ?_
 simp only [strBin, tx_list]
 congr 2
 have h2 := bytes_eq (a := tx a) (b := tx b)
 simp only [tx_list] at h2
 rw [h2, Bool.eq_iff_iff, decide_eq_true_iff, decide_eq_true_iff]
 exact ⟨tx_inj, fun e => by rw [e]⟩
end
/-! ### ends -/
theorem load_cellC {P : Program} [PC P] {h : AHeap} {b t n z off : Nat} {ag s ro : Bool} {cs : List Value} {v : Value} (hb : h.get b = some (.cells cs z s ro)) (ht : szOf P t = some (n, ag)) (hp : pt ag n cs off = some v) : loadA (ctxOf P) h t (.pointer (some ⟨b, off, none⟩)) = some v := by
 obtain ⟨i, h1, h2, h3⟩ := szOf_spec ht
 simp only [loadA, hb, h1]
 have := partA_pt h2 h3 cs off
 unfold partA at this
 rw [this, hp]
section
variable {P : Program} [PC P] {l : EL} {H : AHeap} {lo : Nat} {L : List (Option ABlk)} {rs : Array ResultVar} {Q : Value → AHeap → Prop}
theorem res_cell {a t b off n z : Nat} {ag s ro : Bool} {cs : List Value} {v : Value} (hr : rs.toList = [.cell a t]) (ha : lk l a = some (.pointer (some ⟨b, off, none⟩))) (hb : (ext H lo L).get b = some (.cells cs z s ro)) (ht : szOf P t = some (n, ag)) (hp : pt ag n cs off = some v) :
  resultsA (ctxOf P) (ofA l) (ext H lo L) rs.toList = some [v] := by
 simp only [hr, resultsA, evalA, ofA_get, ha, load_cellC hb ht hp]
theorem res_cell2 {a t b n z a' t' b' n' z' : Nat} {ag s ro ag' s' ro' : Bool} {cs cs' : List Value} {v v' : Value} (hr : rs.toList = [.cell a t, .cell a' t']) (ha : lk l a = some (.pointer (some ⟨b, 0, none⟩))) (hb : (ext H lo L).get b = some (.cells cs z s ro)) (ht : szOf P t = some (n, ag)) (hp : pt ag n cs 0 = some v)
  (ha' : lk l a' = some (.pointer (some ⟨b', 0, none⟩))) (hb' : (ext H lo L).get b' = some (.cells cs' z' s' ro')) (ht' : szOf P t' = some (n', ag')) (hp' : pt ag' n' cs' 0 = some v') :
  resultsA (ctxOf P) (ofA l) (ext H lo L) rs.toList = some [v, v'] := by
 simp only [hr, resultsA, evalA, ofA_get, ha, ha', load_cellC hb ht hp, load_cellC hb' ht' hp']
omit [PC P] in
theorem fin_keepR {vs : List Value} (hc : Closed H) (hr : resultsA (ctxOf P) (ofA l) (ext H lo L) rs.toList = some vs) (hv : renV (renOf H []) 8 (packA vs) = some (packA vs)) (hq : Q (packA vs) H) : Fin P rs H Q ⟨ofA l, [], ext H lo L⟩ :=
 ⟨⟨_, vs, packA vs, H, rfl, hr, tidy_of (H0 := H) (ys := []) (ren_ext hc (fun _ _ h => ext_get_old hc h) (l := []) .nil (by simp) rfl (by simp)) hv, hq⟩⟩
omit [PC P] in
theorem fin_oneR {vs : List Value} {v : Value} {k : Nat} {cs : List Value} {z : Nat} {s ro : Bool} (hc : Closed H) (hr : resultsA (ctxOf P) (ofA l) (ext H lo L) rs.toList = some vs)
  (hk : L[k]? = some (some (.cells cs z s ro))) (hf : cs.all (flatD 8) = true) (hv : renV (renOf H [nb H k]) 8 (packA vs) = some v) (hq : Q v (H.add (.cells cs z s ro))) : Fin P rs H Q ⟨ofA l, [], ext H lo L⟩ :=
 ⟨⟨_, vs, v, _, rfl, hr, tidy_one hc (fun _ _ h => ext_get_old hc h) ⟨own_iff.1 (nb_own k), nb_ge k⟩ (ext_get_new hk) hf hv, hq⟩⟩
omit [PC P] in
theorem fin_twoC {vs : List Value} {v : Value} {j k : Nat} {cs cs' : List Value} {z z' : Nat} {s ro s' ro' : Bool} (hc : Closed H) (hr : resultsA (ctxOf P) (ofA l) (ext H lo L) rs.toList = some vs)
  (hj : L[j]? = some (some (.cells cs z s ro))) (hk : L[k]? = some (some (.cells cs' z' s' ro'))) (hne : j ≠ k) (hf : cs.all (flatD 8) = true) (hf' : cs'.all (flatD 8) = true) (hv : renV (renOf H [nb H j, nb H k]) 8 (packA vs) = some v) (hq : Q v ((H.add (.cells cs z s ro)).add (.cells cs' z' s' ro'))) :
  Fin P rs H Q ⟨ofA l, [], ext H lo L⟩ := by
 refine ⟨⟨_, vs, v, _, rfl, hr, ?_, hq⟩⟩
 refine tidy_of (H0 := H) (ys := [.cells cs z s ro, .cells cs' z' s' ro']) (ren_ext hc (fun _ _ h => ext_get_old hc h) (l := [nb H j, nb H k]) ?_ ?_ rfl ?_) hv
 ·simp only [List.nodup_cons, List.mem_singleton, List.not_mem_nil, not_false_eq_true, List.nodup_nil, and_true]
  intro e; exact hne (nb_inj.1 e)
 ·intro b hb
  simp only [List.mem_cons, List.not_mem_nil, or_false] at hb
  rcases hb with rfl | rfl
  ·exact ⟨own_iff.1 (nb_own j), nb_ge j⟩
  ·exact ⟨own_iff.1 (nb_own k), nb_ge k⟩
 ·intro i c y hi hy
  match i with
  | 0 =>
   simp only [List.getElem?_cons_zero, Option.some.injEq] at hi hy
   subst hi; subst hy
   exact ⟨_, ext_get_new hj, renB_flat hf⟩
  | 1 =>
   simp only [List.getElem?_cons_succ, List.getElem?_cons_zero, Option.some.injEq] at hi hy
   subst hi; subst hy
   exact ⟨_, ext_get_new hk, renB_flat hf'⟩
  | n + 2 => simp at hi
theorem renOf_two1 {H : AHeap} {j k : Nat} (hne : j ≠ k) : renOf H [nb H j, nb H k] (nb H j) = some H.fresh ∧ renOf H [nb H j, nb H k] (nb H k) = some (H.fresh + 2) :=
 renOf_two ⟨own_iff.1 (nb_own j), nb_ge j⟩ ⟨own_iff.1 (nb_own k), nb_ge k⟩ (fun e => hne (nb_inj.1 e))
theorem renOf_new {k : Nat} : renOf H [nb H k] (nb H k) = some H.fresh := renOf_one ⟨own_iff.1 (nb_own k), nb_ge k⟩
theorem ints_flat {T : List Int} : (T.map fun x => (Value.int .i64 x)).all (flatD 8) = true := by
 rw [List.all_eq_true]
 intro x hx
 obtain ⟨y, _, rfl⟩ := List.mem_map.1 hx
 rfl
end
end Go.Den
/- Small numbers of the package num: Of, Sign, Neg, Abs. -/
noncomputable section
namespace Go.Proofs.YtmcecjplgalcgaaGreatDoor
open Go Go.Den
set_option maxRecDepth 100000
abbrev nI (s : Int) : List Value := [I s, .slice none 0 0]
theorem numOf_c {H : AHeap} {n : Int} : Ret Tryz.prog 94 [I n] H (.agg ⟨nI n⟩) H := by
 refine fn_start Tryz.func94 rfl rfl rfl fun hc => ?_
 apply ct_seq
 apply ct_region
 apply seq_newP; exact do_alloc rfl rfl; exact rfl
 apply seq_nil
 apply ct_seq
 apply ct_region
 apply seq_plain; exact do_move rfl; exact rfl
 apply seq_plain; exact do_build rfl rfl rfl rfl; exact rfl
 apply seq_putC (hc := by assumption); rotate_left; exact do_store rfl rfl (by exact ext_get_new rfl) rfl rfl (nb_own _); rotate_left; exact Nat.le_of_ble_eq_true rfl
 apply ct_ret
 refine fin_cell hc rfl rfl (by exact ext_get_new rfl) (by exact rfl) (by exact rfl) (by exact rfl) (by exact ⟨rfl, rfl⟩)
theorem sign_c {H : AHeap} {n : Int} : Ret Tryz.prog 143 [.agg ⟨nI n⟩] H (I (max (-1) (min 1 n))) H := by
 refine fn_start Tryz.func143 rfl rfl rfl fun hc => ?_
 apply ct_seq
 apply ct_region
 apply seq_newP; exact do_box rfl rfl rfl; exact rfl
 apply seq_plain; exact do_assign rfl; exact rfl
 apply seq_nil
 apply ct_seq
 apply ct_region
 apply seq_plain; exact do_fieldAddr rfl rfl; exact rfl
 apply seq_plain; exact do_load rfl (by exact ext_get_new rfl) rfl (by exact rfl); exact rfl
 apply seq_plain; exact do_min rfl; exact rfl
 apply seq_plain; exact do_max rfl; exact rfl
 apply seq_plain; exact do_assign rfl; exact rfl
 apply seq_nil
 apply ct_ret
 exact fin_flat hc rfl rfl ⟨rfl, rfl⟩
theorem neg_c {H : AHeap} {n : Int} (h1 : -9223372036854775808 < n) (h2 : n ≤ 9223372036854775807) : Ret Tryz.prog 144 [.agg ⟨nI n⟩] H (.agg ⟨nI (-n)⟩) H := by
 refine fn_start Tryz.func144 rfl rfl rfl fun hc => ?_
 apply ct_seq
 apply ct_region
 apply seq_newP; exact do_box rfl rfl rfl; exact rfl
 apply seq_newP; exact do_alloc rfl rfl; exact rfl
 apply seq_nil
 iterate 2 (apply ct_seq)
 apply ct_region
 apply seq_plain; exact do_fieldAddr rfl rfl; exact rfl
 apply seq_plain; exact do_load rfl (by exact ext_get_new rfl) rfl (by exact rfl); exact rfl
 apply seq_plain; exact do_eqlNilS rfl rfl rfl; exact rfl
 apply seq_plain; exact do_move rfl; exact rfl
 apply seq_guard (hd := rfl) (hl := rfl); exact do_fieldAddr rfl rfl; exact rfl
 apply seq_guard (hd := rfl) (hl := rfl); exact do_load rfl (by exact ext_get_new rfl) rfl (by exact rfl); exact rfl
 apply seq_guard (hd := rfl) (hl := rfl); exact do_binInt rfl rfl rfl trivial; exact rfl
 apply seq_plain; exact do_pick_t rfl rfl; exact rfl
 apply seq_nil
 refine ct_cond_t rfl ?_ ?_
 ·show (n != -9223372036854775808) = true
  simp; omega
 apply ct_seq
 apply ct_region
 apply seq_plain; exact do_fieldAddr rfl rfl; exact rfl
 apply seq_plain; exact do_load rfl (by exact ext_get_new rfl) rfl (by exact rfl); exact rfl
 apply seq_plain; exact do_neg rfl (by omega); exact rfl
 apply seq_plain; exact do_build rfl rfl rfl rfl; exact rfl
 apply seq_putC (hc := by assumption); rotate_left; exact do_store rfl rfl (by exact ext_get_new rfl) rfl rfl (nb_own _); rotate_left; exact Nat.le_of_ble_eq_true rfl
 apply ct_ret
 refine fin_cell hc rfl rfl (by exact ext_get_new rfl) (by exact rfl) (by exact rfl) (by exact rfl) (by exact ⟨rfl, rfl⟩)
theorem abs_c {H : AHeap} {n : Int} (h1 : -9223372036854775808 < n) (h2 : n ≤ 9223372036854775807) : Ret Tryz.prog 194 [.agg ⟨nI n⟩] H (.agg ⟨nI (n.natAbs : Int)⟩) H := by
 refine fn_start Tryz.func194 rfl rfl rfl fun hc => ?_
 apply ct_seq
 apply ct_region
 apply seq_newP; exact do_box rfl rfl rfl; exact rfl
 apply seq_newP; exact do_alloc rfl rfl; exact rfl
 apply seq_nil
 iterate 2 (apply ct_seq)
 apply ct_region
 apply seq_plain; exact do_fieldAddr rfl rfl; exact rfl
 apply seq_plain; exact do_load rfl (by exact ext_get_new rfl) rfl (by exact rfl); exact rfl
 apply seq_plain; exact do_binInt rfl rfl rfl trivial; exact rfl
 apply seq_nil
 refine ct_cond rfl (fun h => ?_) (fun h => ?_)
 ·have h : n < 0 := by simpa using h
  have e : (n.natAbs : Int) = -n := by omega
  rw [e]
  apply ct_seq
  apply ct_region
  apply seq_plain; exact do_load rfl (by exact ext_get_new rfl) rfl (by exact rfl); exact rfl
  apply seq_call (ht := rfl); exact neg_c h1 h2; exact rfl
  apply seq_putC (hc := by assumption); rotate_left; exact do_store rfl rfl (by exact ext_get_new rfl) rfl rfl (nb_own _); rotate_left; exact Nat.le_of_ble_eq_true rfl
  apply ct_ret
  refine fin_cell hc rfl rfl (by exact ext_get_new rfl) (by exact rfl) (by exact rfl) (by exact rfl) (by exact ⟨rfl, rfl⟩)
 ·have h : ¬ n < 0 := by simpa using h
  have e : (n.natAbs : Int) = n := by omega
  rw [e]
  apply ct_skip
  apply ct_seq
  apply ct_region
  apply seq_plain; exact do_load rfl (by exact ext_get_new rfl) rfl (by exact rfl); exact rfl
  apply seq_putC (hc := by assumption); rotate_left; exact do_store rfl rfl (by exact ext_get_new rfl) rfl rfl (nb_own _); rotate_left; exact Nat.le_of_ble_eq_true rfl
  apply ct_ret
  refine fin_cell hc rfl rfl (by exact ext_get_new rfl) (by exact rfl) (by exact rfl) (by exact rfl) (by exact ⟨rfl, rfl⟩)
end Go.Proofs.YtmcecjplgalcgaaGreatDoor
