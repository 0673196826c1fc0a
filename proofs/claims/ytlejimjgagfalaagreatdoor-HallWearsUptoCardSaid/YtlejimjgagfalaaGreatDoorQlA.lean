import Derived.Test.YtlejimjgagfalaaGreatDoorQaB
import Derived.Test.YtlejimjgagfalaaGreatDoorHaC
import Derived.Test.YtlejimjgagfalaaGreatDoorStA
import Derived.Test.YtlejimjgagfalaaGreatDoorStC
import Derived.Test.YtlejimjgagfalaaGreatDoorShC
noncomputable section
namespace Go.Proofs.YtlejimjgagfalaaGreatDoor
open Go Go.Den
set_option maxRecDepth 100000
def cmpWT (a b : List Int) : Nat → Int
 | 0 => 0
 | k + 1 => if a[k]?.getD 0 < b[k]?.getD 0 then -1 else if a[k]?.getD 0 > b[k]?.getD 0 then 1 else cmpWT a b k
def cmpW (a b : List Int) : Int := if a.length ≠ b.length then (if a.length < b.length then -1 else 1) else cmpWT a b a.length
set_option maxHeartbeats 4000000 in
theorem zbB {H : AHeap} {p q : Option Addr} {c e : Nat} {a b : List Int} (hp : SlAt H 1 i1 p a) (hq : SlAt H 1 i1 q b) (ha : a.length < 1000000000000) (hb : b.length < 1000000000000) :
  Ret Tryz.prog 274 [.slice p a.length c, .slice q b.length e] H (I (cmpW a b)) H := by
 refine zae Tryz.func274 rfl rfl rfl fun hc => ?_
 refine zst ?_;refine zq0 ?_;apply zaf;refine zai rfl (fun h1 => ?_) (fun h1 => ?_)
 ·have h1 : a.length ≠ b.length := by intro e; rw [e] at h1; simp at h1
  refine zst ?_;refine zq0 ?_;apply zaf;refine zai rfl (fun h2 => ?_) (fun h2 => ?_)
  ·have h2 : a.length < b.length := by simpa using h2
   refine zst ?_;refine zab hc rfl rfl ⟨?_, rfl⟩;unfold cmpW; rw [if_pos h1, if_pos h2]; rfl
  ·have h2 : ¬ a.length < b.length := by simpa using h2
   refine zst ?_;refine zab hc rfl rfl ⟨?_, rfl⟩;unfold cmpW; rw [if_pos h1, if_neg h2]; rfl
 have h1 : a.length = b.length := by
  rcases Nat.lt_trichotomy a.length b.length with h | h | h
  ·exfalso; simp at h1; omega
  ·exact h
  ·exfalso; simp at h1; omega
 have eR : cmpW a b = cmpWT a b a.length := if_neg (by omega);rw [eR];refine zst ?_;refine zq27 ?_;refine zst ?_;apply zar;refine zaA (α := Nat) (fun k => [(0, .slice p a.length c), (1, .slice q b.length e), (5, I ((k : Int) - 1))]) (fun _ => ext H H.fresh []) (fun k => k ≤ a.length ∧ cmpWT a b k = cmpWT a b a.length) (fun k => k) (fun k hk ih => ?_) a.length ⟨Nat.le_refl _, rfl⟩ zsb (.refl _);obtain ⟨hk, hJ⟩ := hk;rcases k with _ | k
 ·refine zst ?_;refine zq0 ?_;apply zaf;refine zah rfl rfl ?_;apply zap;apply zaq; exact rfl;refine zst ?_;refine zab hc rfl rfl ⟨?_, rfl⟩;rw [← hJ]; rfl
 ·obtain ⟨b1, o1, cs1, z1, s1, ro1, rfl, hg1, hw1⟩ := hp.out (by intro e; rw [e] at hk; simp at hk);obtain ⟨b2, o2, cs2, z2, s2, ro2, rfl, hg2, hw2⟩ := hq.out (by intro e; rw [e] at h1; simp at h1; rw [h1] at hk; simp at hk);have hka : k < a.length := by omega
  have hkb : k < b.length := by omega
  have e1 : ((k + 1 : Nat) : Int) - 1 = (k : Int) := by omega
  have ea : a[k]?.getD 0 = a[k] := by rw [List.getElem?_eq_getElem hka]; rfl
  have eb : b[k]?.getD 0 = b[k] := by rw [List.getElem?_eq_getElem hkb]; rfl
  have eJ : cmpWT a b (k + 1) = if a[k] < b[k] then -1 else if a[k] > b[k] then 1 else cmpWT a b k := by simp only [cmpWT, ea, eb]
  rw [eJ] at hJ;have ih' := ih k (by omega);rw [e1];refine zst ?_;refine zq0 ?_;apply zaf;refine zam rfl (decide_eq_true (by omega)) ?_;refine zst ?_;apply zax (by assumption); decide +kernel;(iterate 2 (refine zq5 ?_));refine zq6 ?_;refine zq7 ?_;(iterate 2 (refine zq5 ?_));refine zq6 ?_;refine zq7 ?_;refine zq8 ?_;apply zaz;refine zai rfl (fun u1 => ?_) (fun u1 => ?_)
  ·have u1 : a[k] < b[k] := by simpa using u1
   rw [if_pos u1] at hJ;refine zst ?_;refine zab hc rfl rfl ⟨?_, rfl⟩;rw [← hJ]; rfl
  ·have u1 : ¬ a[k] < b[k] := by simpa using u1
   rw [if_neg u1] at hJ;refine zst ?_;apply zax (by assumption); decide +kernel;(iterate 2 (refine zq5 ?_));refine zq6 ?_;refine zq7 ?_;(iterate 2 (refine zq5 ?_));refine zq6 ?_;refine zq7 ?_;refine zq8 ?_;apply zaz;refine zai rfl (fun u2 => ?_) (fun u2 => ?_)
   ·have u2 : a[k] > b[k] := by simpa using u2
    rw [if_pos u2] at hJ;refine zst ?_;refine zab hc rfl rfl ⟨?_, rfl⟩;rw [← hJ]; rfl
   ·have u2 : ¬ a[k] > b[k] := by simpa using u2
    rw [if_neg u2] at hJ;refine zst ?_;refine zq27 ?_;refine zst ?_;exact zaN zsb (.refl _) (ih' ⟨by omega, hJ⟩)
end Go.Proofs.YtlejimjgagfalaaGreatDoor
noncomputable section
namespace Go.Den
section
variable {P : Program} {rd : Option Nat} {nt : Nat} {ops : Array Oper} {l : EL} {ds : List Nat} {K : St → Prop} {i : Nat} {r : List Oper} {ty : TypeId} {pos : String} {af : Array Edge} {H : AHeap} {lo : Nat} {L0 : List (Option ABlk)} {ow : List Nat} {N : List ABlk}
theorem zn2 {d : Nat} {c : Call} {v : Nat → Value} {x : ABlk} {f : FuncId} {args : List Value} {j t : Nat} {w : Bool} (hg : gdst ops j = some t) (hl : lk l t = some (.bool w)) (ht : tgtE l c = some (f, args)) (hw : ow.length = N.length) (hm : ow.all (fun j => Nat.testBit (befS ops i) j) = true)
  (hc : Ret P f args (ext H lo (L0 ++ N.map some)) (v (ext H lo (L0 ++ N.map some)).fresh) ((ext H lo (L0 ++ N.map some)).add x)) (hd : Nat.blt d nt = true)
  (hk : SeqD P rd nt ops r (i + 1) ds ((d, v (nb H (L0.length + N.length))) :: l) H lo L0 (ow ++ [i]) (N ++ [x]) K) : SeqD P rd nt ops (⟨some d, .call c, ty, pos, af, some (j, w)⟩ :: r) i ds l H lo L0 ow N K := by
 have e : (ext H lo (L0 ++ N.map some)).fresh = nb H (L0.length + N.length) := by rw [zal]; simp
 rw [e, za2] at hc;exact zdw fun ho => zie rfl (zdJ hw hm) (fun _ ha => zis ho rfl hg hl ht hc hd ha) hk
theorem zn3 {d : Nat} {c : Call} {v : Value} {f : FuncId} {args : List Value} {j t : Nat} {w : Bool} (hg : gdst ops j = some t) (hl : lk l t = some (.bool w)) (ht : tgtE l c = some (f, args)) (hw : ow.length = N.length) (hm : ow.all (fun j => Nat.testBit (befS ops i) j) = true)
  (hc : Ret P f args (ext H lo (L0 ++ N.map some)) v (ext H lo (L0 ++ N.map some))) (hd : Nat.blt d nt = true)
  (hk : SeqD P rd nt ops r (i + 1) ds ((d, v) :: l) H lo L0 ow N K) : SeqD P rd nt ops (⟨some d, .call c, ty, pos, af, some (j, w)⟩ :: r) i ds l H lo L0 ow N K :=
 zdw fun ho => zdB rfl (zdJ hw hm) (fun _ ha => zis ho rfl hg hl ht hc hd ha) hk
end
end Go.Den
namespace Go.Proofs.YtlejimjgagfalaaGreatDoor
open Go Go.Den
set_option maxRecDepth 100000
abbrev nI (s : Int) : List Value := [I s, .slice none 0 0]
theorem zoC {H : AHeap} {n : Int} : Ret Tryz.prog 98 [I n] H (.agg ⟨nI n⟩) H := by
 refine zae Tryz.func98 rfl rfl rfl fun hc => ?_
 refine zst ?_;refine zq28 ?_;refine zq29 ?_;apply zaV;refine zcp hc rfl rfl (by exact zaa rfl) (by exact rfl) (by exact rfl) (by exact rfl) (by exact ⟨rfl, rfl⟩)
theorem znU {H : AHeap} {n : Int} : Ret Tryz.prog 134 [.agg ⟨nI n⟩] H (I (max (-1) (min 1 n))) H := by
 refine zae Tryz.func134 rfl rfl rfl fun hc => ?_
 refine zst ?_;refine zq17 ?_;apply zad; exact do_min rfl; exact rfl;apply zad; exact zlH rfl; exact rfl;refine zst ?_;exact zab hc rfl rfl ⟨rfl, rfl⟩
theorem neg_c {H : AHeap} {n : Int} (h1 : -9223372036854775808 < n) (h2 : n ≤ 9223372036854775807) : Ret Tryz.prog 135 [.agg ⟨nI n⟩] H (.agg ⟨nI (-n)⟩) H := by
 refine zae Tryz.func135 rfl rfl rfl fun hc => ?_
 refine zst ?_;refine zq17 ?_;apply zad; exact zcu rfl rfl rfl; exact rfl;refine zst ?_;refine zq25 ?_;refine zq1 ?_;refine zst ?_;refine zam rfl ?_ ?_
 ·show (n != -9223372036854775808) = true;simp; omega
 refine zst ?_;refine zq17 ?_;apply zad; exact zrI rfl (by omega); exact rfl;refine zq28 ?_;refine zq29 ?_;apply zaV;refine zcp hc rfl rfl (by exact zaa rfl) (by exact rfl) (by exact rfl) (by exact rfl) (by exact ⟨rfl, rfl⟩)
theorem abs_c {H : AHeap} {n : Int} (h1 : -9223372036854775808 < n) (h2 : n ≤ 9223372036854775807) : Ret Tryz.prog 186 [.agg ⟨nI n⟩] H (.agg ⟨nI (n.natAbs : Int)⟩) H := by
 refine zae Tryz.func186 rfl rfl rfl fun hc => ?_
 refine zst ?_;refine zq17 ?_;refine zq0 ?_;apply zaf;refine zai rfl (fun h => ?_) (fun h => ?_)
 ·have h : n < 0 := by simpa using h
  have e : (n.natAbs : Int) = -n := by omega
  rw [e];refine zst ?_;refine zq17 ?_;apply zac (ht := rfl); exact neg_c h1 h2; exact rfl;refine zq29 ?_;apply zaV;refine zcp hc rfl rfl (by exact zaa rfl) (by exact rfl) (by exact rfl) (by exact rfl) (by exact ⟨rfl, rfl⟩)
 ·have h : ¬ n < 0 := by simpa using h
  have e : (n.natAbs : Int) = n := by omega
  rw [e];refine zst ?_;refine zq17 ?_;refine zq29 ?_;apply zaV;refine zcp hc rfl rfl (by exact zaa rfl) (by exact rfl) (by exact rfl) (by exact rfl) (by exact ⟨rfl, rfl⟩)
end Go.Proofs.YtlejimjgagfalaaGreatDoor
noncomputable section
namespace Go.Den
theorem zhO {P : Program} [PC P] {H : AHeap} {Q : Value → AHeap → Prop} {rs : Array ResultVar} {l : EL} {L : List (Option ABlk)} {lo a t a' t' j k n n' z z' : Nat} {ag ag' s s' ro ro' : Bool} {cs cs' : List Value} {x y : Value} (hc : Closed H) (hr : rs.toList = [.cell a t, .cell a' t'])
  (ha : lk l a = some (.pointer (some ⟨nb H j, 0, none⟩))) (ha' : lk l a' = some (.pointer (some ⟨nb H k, 0, none⟩))) (ht : szOf P t = some (n, ag)) (ht' : szOf P t' = some (n', ag')) (hj : L[j]? = some (some (.cells cs z s ro))) (hk : L[k]? = some (some (.cells cs' z' s' ro')))
  (hp : pt ag n cs 0 = some x) (hp' : pt ag' n' cs' 0 = some y) (hv : flatD 8 (packA [x, y]) = true) (hq : Q (packA [x, y]) H) : Fin P rs H Q ⟨ofA l, [], ext H lo L⟩ := by
 refine ⟨⟨ext H lo L, [x, y], packA [x, y], H, rfl, ?_, zcU hc (fun _ _ h => zaj hc h) hv, hq⟩⟩;simp only [hr, resultsA, evalA, zaG, ha, ha', zcr (zaa hj) ht hp, zcr (zaa hk) ht' hp']
end Go.Den
namespace Go.Proofs.YtlejimjgagfalaaGreatDoor
open Go Go.Den
set_option maxRecDepth 100000
theorem zfA {P : Program} {l : EL} {h : AHeap} {x y : Operand} {t t' : TypeId} {a b : Int} (hx : ev l x = some (.int .i64 a)) (hy : ev l y = some (.int .i64 b)) (h1 : -9223372036854775808 < a) (h2 : a ≤ 9223372036854775807) (hb : 0 < b) : Does P l (.binOp .quo t x y t') h (.int .i64 (a.tdiv b)) h := by
 refine za5 hx hy ?_ trivial;simp only [intBin];rw [if_neg (by omega), wrapI, wrap_i64];have h3 : (a.tdiv b).natAbs ≤ a.natAbs := by rw [Int.natAbs_tdiv]; exact Nat.div_le_self _ _
 generalize a.tdiv b = z at h3
 omega
set_option maxHeartbeats 4000000 in
theorem zlK {H : AHeap} {a b : Int} (h1 : -9223372036854775808 < a) (h2 : a ≤ 9223372036854775807) (hb : 0 < b) (hb2 : b ≤ 9223372036854775807) : Ret Tryz.prog 187 [.agg ⟨nI a⟩, .agg ⟨nI b⟩] H (.tuple ⟨[.agg ⟨nI (a / b)⟩, .agg ⟨nI (a % b)⟩]⟩) H := by
 refine zae Tryz.func187 rfl rfl rfl fun hc => ?_
 refine zst ?_;refine zq17 ?_;apply zad; exact zcu rfl rfl rfl; exact rfl;refine zst ?_;refine zq25 ?_;apply zay (hd := rfl) (hl := rfl); exact zcu rfl rfl rfl; exact rfl;refine zst ?_;refine zq25 ?_;refine zq1 ?_;refine zst ?_;refine zam rfl ?_ ?_
 ·show (a != -9223372036854775808) = true;simp; omega
 apply zcj;apply zax (by assumption); decide +kernel;refine zq12 ?_;refine zq13 ?_;refine zq12 ?_;refine zq13 ?_;apply zau (hfree := rfl); intro _; exact zfA rfl rfl (by assumption) (by assumption) (by assumption); exact rfl;refine zq12 ?_;refine zq13 ?_;refine zq12 ?_;refine zq13 ?_;apply zau (hfree := rfl); intro _; exact zlF rfl rfl (by omega); exact rfl;(iterate 2 (refine zq14 ?_));apply zaz;refine zst ?_;refine zq0 ?_;apply zaf;have hd := Int.mul_tdiv_add_tmod a b;have hm : (a.tmod b).natAbs < b.natAbs := by rw [Int.natAbs_tmod]; exact Nat.mod_lt _ (by omega)
 refine zai rfl (fun h => ?_) (fun h => ?_)
 ·have h : a.tmod b < 0 := by simpa using h
  have e := (Int.ediv_emod_unique hb (a := a) (r := a.tmod b + b) (q := a.tdiv b - 1)).2 ⟨by rw [Int.mul_sub]; omega, by omega, by omega⟩;rw [e.1, e.2];have hq : (a.tdiv b).natAbs ≤ a.natAbs := by rw [Int.natAbs_tdiv]; exact Nat.div_le_self _ _
  have hq2 : -9223372036854775808 < a.tdiv b := by omega
  clear hd e;apply zax (by assumption); decide +kernel;refine zq5 ?_;refine zq30 ?_;refine zq5 ?_;refine zq12 ?_;refine zq13 ?_;refine zq31 ?_;(iterate 2 (refine zq14 ?_));apply zaz;refine zst ?_;refine zq28 ?_;refine zst ?_;refine zq28 ?_;refine zq32 ?_;refine zq29 ?_;apply zaV;exact zhO hc rfl rfl rfl rfl rfl rfl rfl rfl rfl rfl ⟨rfl, rfl⟩
 ·have h : ¬ a.tmod b < 0 := by simpa using h
  have e := (Int.ediv_emod_unique hb (a := a) (r := a.tmod b) (q := a.tdiv b)).2 ⟨by omega, by omega, by omega⟩;rw [e.1, e.2];refine zst ?_;refine zq28 ?_;refine zst ?_;refine zq28 ?_;refine zq32 ?_;refine zq29 ?_;apply zaV;exact zhO hc rfl rfl rfl rfl rfl rfl rfl rfl rfl rfl ⟨rfl, rfl⟩
structure DigL (a : List Int) : Prop where
 bd : ∀ x ∈ a, 0 ≤ x ∧ x < 1000000000
def dvR (a : List Int) (d : Int) : Nat → Int
 | 0 => 0
 | j + 1 => (dvR a d j * 1000000000 + a[a.length - (j + 1)]?.getD 0) % d
def dvS (a : List Int) (d : Int) (j : Nat) : Int := dvR a d j * 1000000000 + a[a.length - (j + 1)]?.getD 0
def dvQ (a : List Int) (d : Int) : Nat → List Int
 | 0 => List.replicate a.length 0
 | j + 1 => (dvQ a d j).set (a.length - (j + 1)) (dvS a d j / d)
theorem zen (a : List Int) (d : Int) : ∀ j, (dvQ a d j).length = a.length
 | 0 => by simp [dvQ]
 | j + 1 => by simp [dvQ, zen a d j]
theorem zpf {a : List Int} {d : Int} (hd : 0 < d) : ∀ j, 0 ≤ dvR a d j ∧ dvR a d j < d
 | 0 => ⟨Int.le_refl _, hd⟩
 | j + 1 => ⟨Int.emod_nonneg _ (by omega), Int.emod_lt_of_pos _ hd⟩
theorem zrE {a : List Int} {d : Int} (ha : DigL a) (hd : 0 < d) (hd2 : d < 1000000000) (j : Nat) : 0 ≤ dvS a d j ∧ dvS a d j < d * 1000000000 := by
 obtain ⟨h1, h2⟩ := zpf (a := a) hd j;unfold dvS
 have h3 : 0 ≤ a[a.length - (j + 1)]?.getD 0 ∧ a[a.length - (j + 1)]?.getD 0 < 1000000000 := by
  cases h : a[a.length - (j + 1)]? with
  | none => exact ⟨by simp, by simp⟩
  | some x => exact ha.bd x (List.mem_of_getElem? h)
 omega
theorem mkInts {P : Program} [PC P] {l : EL} {h : AHeap} {t : TypeId} {a : Operand} {n : Nat} {e : TypeId} (ha : ev l a = some (I n)) (hn : n ≤ 1000) (hs : selOf P t = some (1, false)) (he : (tyOf P t).map (·.und) = some (.slice e)) (hz : zerOf P e = some [I 0]) (hby : (tyOf P e).map (·.bytes) = some 8) :
  Does P l (.makeSlice t a a) h (.slice (some ⟨h.fresh, 0, none⟩) n n) (h.add (.cells ((List.replicate n (0 : Int)).map I) 1 false false)) := by
 rw [← zk2 (g := I)];exact zcO ha ha hs he hz hby (Nat.le_refl _) (by omega) (by omega)
set_option maxHeartbeats 4000000 in
theorem zhW {H : AHeap} {p : Option Addr} {c : Nat} {a : List Int} {d : Int} (hp : SlAt H 1 i1 p a) (hn : a.length ≤ 1000) (ha : DigL a) (hd : 0 < d) (hd2 : d < 1000000000) :
  Ret Tryz.prog 275 [.slice p a.length c, I d] H (.tuple ⟨[.slice (some ⟨H.fresh, 0, none⟩) (trimN (dvQ a d a.length)) a.length, I (dvR a d a.length)]⟩) (H.add (.cells ((dvQ a d a.length).map I) 1 false false)) := by
 refine zae Tryz.func275 rfl rfl rfl fun hc => ?_
 refine zst ?_;apply zbO; exact mkInts rfl hn rfl rfl rfl rfl; exact rfl;refine zst ?_;refine zq27 ?_;refine zst ?_;apply zar;refine zaA (α := Nat) (fun j => [(0, .slice p a.length c), (1, I d), (6, .slice (some ⟨nb H 0, 0, none⟩) a.length a.length), (7, I (dvR a d j)), (8, I ((a.length : Int) - (j : Int) - 1))]) (fun j => ext H H.fresh [some (.cells ((dvQ a d j).map I) 1 false false)]) (fun j => j ≤ a.length) (fun j => a.length - j) (fun j hj ih => ?_) 0 (Nat.zero_le _) ?_ (.refl _);rotate_left
 ·rw [show ((a.length : Int) - ((0 : Nat) : Int) - 1) = (a.length : Int) - 1 by omega]
  (repeat (first | exact zbi | apply za0 rfl))
 rcases Nat.lt_or_ge j a.length with h1 | h1
 ·obtain ⟨b1, o1, cs1, z1, s1, ro1, rfl, hg1, hw1⟩ := hp.out (by intro e; rw [e] at h1; simp at h1);obtain ⟨i, hi⟩ : ∃ i, i = a.length - (j + 1) := ⟨_, rfl⟩
  have hia : i < a.length := by omega
  have e1 : (a.length : Int) - (j : Int) - 1 = (i : Int) := by omega
  have ei : a[a.length - (j + 1)]?.getD 0 = a[i] := by rw [← hi, List.getElem?_eq_getElem hia]; rfl
  obtain ⟨r1, r2⟩ := zpf (a := a) hd j;obtain ⟨s1', s2'⟩ := zrE ha hd hd2 j;have eS : dvS a d j = dvR a d j * 1000000000 + a[i] := by unfold dvS; rw [ei]
  have eR : dvR a d (j + 1) = dvS a d j % d := rfl;have eQ : dvQ a d (j + 1) = (dvQ a d j).set i (dvS a d j / d) := by rw [hi]; rfl
  have ih' := ih (j + 1) (by omega) (by omega);have eQl := zen a d j;obtain ⟨R, hR⟩ : ∃ R, R = dvR a d j := ⟨_, rfl⟩
  obtain ⟨S, hS⟩ : ∃ S, S = dvS a d j := ⟨_, rfl⟩
  rw [← hR] at r1 r2 eS ⊢;rw [← hS] at s1' s2' eS eR eQ;have m1 : -9223372036854775808 ≤ R * 1000000000 ∧ R * 1000000000 ≤ 9223372036854775807 := by omega
  have m2 : -9223372036854775808 < S := by omega
  have m3 : S ≤ 9223372036854775807 := by omega
  have t1 : S.tdiv d = S / d := Int.tdiv_eq_ediv_of_nonneg s1';have t2 : S.tmod d = S % d := Int.tmod_eq_emod_of_nonneg s1';rw [e1];refine zst ?_;refine zq0 ?_;apply zaf;refine zam rfl (decide_eq_true (by omega)) ?_;refine zst ?_;refine zq33 ?_;refine zst ?_;refine zq2 ?_;refine zq3 ?_;refine zq26 ?_;refine zst ?_;rw [← eS];apply zad; exact zfA rfl rfl (by assumption) (by assumption) (by assumption); exact rfl;refine zq2 ?_;rw [t1];apply zcJ (hc := by assumption); rotate_left; exact zav rfl rfl (zaa rfl) rfl (zbj (by rw [eQl]; exact hia) rfl rfl) (zat _); rotate_left; exact Nat.le_of_ble_eq_true rfl;refine zst ?_;apply zad; exact zlF rfl rfl (by omega); exact rfl;refine zst ?_;refine zq27 ?_;refine zst ?_;have e2 : (i : Int) - 1 = (a.length : Int) - ((j + 1 : Nat) : Int) - 1 := by omega
  rw [t2, ← eR, ← eQ, e2];exact zaN zsb (.refl _) ih'
 ·have h2 : j = a.length := by omega
  subst h2;have e1 : (a.length : Int) - (a.length : Int) - 1 = -1 := by omega
  have ct := fun lo => zgp (H := ext H lo [some (.cells ((dvQ a d a.length).map I) 1 false false)]) (q := some ⟨nb H 0, 0, none⟩) (c := a.length) (l := dvQ a d a.length) (zaB (zaa rfl)) (OldS.new (by simp)) ⟨by rw [zen]; exact Nat.le_refl _, (fun e => by cases e), (fun _ e => by cases e; rfl)⟩ (by rw [zen]; omega)
  rw [zen] at ct;rw [e1];refine zst ?_;refine zq0 ?_;apply zaf;refine zah rfl rfl ?_;apply zap;apply zaq; exact rfl;refine zst ?_;apply zac (ht := rfl); exact ct _; exact rfl;refine zst ?_;exact zci (vs := [.slice (some ⟨nb H 0, 0, none⟩) (trimN (dvQ a d a.length)) a.length, I (dvR a d a.length)]) (k := 0) hc rfl rfl zaY (by simp [packA, renV, renL, zdE]) ⟨rfl, rfl⟩
end Go.Proofs.YtlejimjgagfalaaGreatDoor
noncomputable section
namespace Go.Den
open Go.Proofs.YtlejimjgagfalaaGreatDoor
theorem zp9 {H : AHeap} {q : Option Addr} (h : OldS H q) {n c : Nat} : renV (renOf H []) 8 (packA [.slice none 0 0, .slice q n c]) = some (packA [.slice none 0 0, .slice q n c]) := by
 have := h.ren (lb := []) (n := n) (c := c) (d := 6);simp [packA, renV, renL] at this ⊢;rw [this]
end Go.Den
namespace Go.Proofs.YtlejimjgagfalaaGreatDoor
open Go Go.Den
set_option maxRecDepth 100000
def valW : List Int → Int
 | [] => 0
 | x :: r => x + 1000000000 * valW r
theorem zpt {H : AHeap} {p q : Option Addr} {c e : Nat} {a b : List Int} (hp : SlAt H 1 i1 p a) (hp' : OldS H p) (hq : SlAt H 1 i1 q b) (hn : a.length ≤ 1000) (hm : b.length ≤ 1000) (hlt : cmpW a b < 0) :
  Ret Tryz.prog 257 [.slice p a.length c, .slice q b.length e] H (.tuple ⟨[.slice none 0 0, .slice p a.length c]⟩) H := by
 refine zae Tryz.func257 rfl rfl rfl fun hc => ?_
 have cc := fun lo L => zbB (H := ext H lo L) (c := c) (e := e) (hp.ext (zag hc)) (hq.ext (zag hc)) (by omega) (by omega)
 refine zst ?_;apply zac (ht := rfl); exact cc _ _; exact rfl;refine zq0 ?_;apply zaf;refine zam rfl (decide_eq_true hlt) ?_;refine zst ?_;exact ziD hc rfl (zp9 hp') ⟨rfl, rfl⟩
theorem zqR {H : AHeap} {p q : Option Addr} {c e : Nat} {a : List Int} {d : Int} (hp : SlAt H 1 i1 p a) (hq : SlAt H 1 i1 q [d]) (hn : a.length ≤ 1000) (ha : DigL a) (hd : 0 < d) (hd2 : d < 1000000000) (hge : ¬ cmpW a [d] < 0) :
  Ret Tryz.prog 257 [.slice p a.length c, .slice q 1 e] H (.tuple ⟨[.slice (some ⟨H.fresh, 0, none⟩) (trimN (dvQ a d a.length)) a.length, .slice (some ⟨H.fresh + 2, 0, none⟩) (trimN [dvR a d a.length]) 1]⟩) ((H.add (.cells ((dvQ a d a.length).map I) 1 false false)).add (.cells [I (dvR a d a.length)] 1 false false)) := by
 refine zae Tryz.func257 rfl rfl rfl fun hc => ?_
 have cc := fun lo L => zbB (H := ext H lo L) (c := c) (e := e) (b := [d]) (hp.ext (zag hc)) (hq.ext (zag hc)) (by omega) (by simp)
 have cd := fun lo L => zhW (H := ext H lo L) (c := c) (hp.ext (zag hc)) hn ha hd hd2
 simp only [zal, za2] at cd;obtain ⟨b2, o2, cs2, z2, s2, ro2, rfl, hg2, hw2⟩ := hq.out (by simp);have hV : pt false 1 cs2 (o2 + 0 * 1) = some (I d) := zgK (n := 1) (g := I) (i := 0) hw2 (by simp);have ct := fun lo (L : List (Option ABlk)) (k : Nat) (hk : L[k]? = some (some (.cells [I (dvR a d a.length)] 1 false false))) => zgp (H := ext H lo L) (q := some ⟨nb H k, 0, none⟩) (c := 1) (l := [dvR a d a.length]) (zaB (g := I) (zaa hk)) (OldS.new (List.getElem?_eq_some_iff.1 hk).1) ⟨Nat.le_refl _, (fun e => by cases e), (fun _ e => by cases e; rfl)⟩ (by simp)
 refine zst ?_;apply zac (ht := rfl); exact cc _ _; exact rfl;refine zq0 ?_;apply zaf;refine zah rfl (decide_eq_false hge) ?_;refine zst ?_;refine zq0 ?_;apply zaf;refine zam rfl rfl ?_;refine zst ?_;apply zad; exact zaR rfl rfl rfl (by exact rfl); exact rfl;apply zad; exact zaw rfl (by exact zaj (by assumption) (by assumption)) rfl (by exact (by assumption)); exact rfl;refine zac rfl (cd _ _) rfl ?_;refine zst ?_;refine zq19 ?_;apply zac (ht := rfl); exact ct _ _ 1 rfl; exact rfl;refine zst ?_;exact zkt (vs := [.slice (some ⟨nb H 0, 0, none⟩) (trimN (dvQ a d a.length)) a.length, .slice (some ⟨nb H 1, 0, none⟩) (trimN [dvR a d a.length]) 1]) (j := 0) (k := 1) hc rfl rfl rfl (by decide) zaY rfl (by simp [packA, renV, renL, zfh]) ⟨rfl, rfl⟩
theorem zkT {a : List Int} (h : DigL a) : 0 ≤ valW a := by
 induction a with
 | nil => simp [valW]
 | cons x r ih =>
  have h1 := h.bd x (by simp);have h2 := ih ⟨fun y hy => h.bd y (by simp [hy])⟩;simp only [valW]; omega
def pw : Nat → Nat → List Int
 | 0, _ => []
 | n + 1, v => ((v % 1000000000 : Nat) : Int) :: pw n (v / 1000000000)
theorem zaK : ∀ n v, (pw n v).length = n
 | 0, _ => rfl
 | n + 1, v => by simp [pw, zaK n]
theorem zgG : ∀ {n v i : Nat}, i < n → (pw n v)[i]? = some ((v / 1000000000 ^ i % 1000000000 : Nat) : Int)
 | 0, _, _, h => by omega
 | n + 1, v, 0, _ => by simp [pw]
 | n + 1, v, i + 1, h => by
  simp only [pw, List.getElem?_cons_succ];rw [zgG (by omega), Nat.div_div_eq_div_mul, Nat.pow_succ, Nat.mul_comm]
theorem zeH : ∀ n v, DigL (pw n v)
 | 0, _ => ⟨fun x hx => by simp [pw] at hx⟩
 | n + 1, v => ⟨fun x hx => by
  rcases List.mem_cons.1 hx with rfl | hx
  ·have := Nat.mod_lt v (show 0 < 1000000000 by omega); omega
  ·exact (zeH n _).bd x hx⟩
theorem zji : ∀ n v, valW (pw n v) = ((v % 1000000000 ^ n : Nat) : Int)
 | 0, v => by simp [pw, valW, Nat.mod_one]
 | n + 1, v => by
  simp only [pw, valW, zji n];rw [Nat.pow_succ, Nat.mul_comm (1000000000 ^ n), Nat.mod_mul];simp only [Int.natCast_add, Int.natCast_mul];rfl
theorem DigL.tail {x : Int} {r : List Int} (h : DigL (x :: r)) : DigL r := ⟨fun y hy => h.bd y (List.mem_cons_of_mem _ hy)⟩
theorem zoj : ∀ {l : List Int}, DigL l → l = pw l.length (valW l).toNat
 | [], _ => rfl
 | x :: r, h => by
  have hx := h.bd x List.mem_cons_self;have hr := zkT h.tail;have ih := zoj h.tail;obtain ⟨m, hm⟩ : ∃ m : Nat, valW r = m := ⟨(valW r).toNat, by omega⟩
  simp only [List.length_cons, pw, valW];rw [hm] at ih ⊢;have e1 : (x + 1000000000 * (m : Int)).toNat % 1000000000 = x.toNat := by omega
  have e2 : (x + 1000000000 * (m : Int)).toNat / 1000000000 = m := by omega
  rw [e1, e2];rw [Int.toNat_natCast] at ih;rw [← ih]
  congr 1; omega
theorem zol {l : List Int} {n v : Nat} (h : DigL l) (hl : l.length = n) (hv : valW l = (v : Int)) : l = pw n v := by
 have := zoj h;rw [hv, Int.toNat_natCast, hl] at this; exact this
def dlen (v : Nat) : Nat := if v = 0 then 0 else dlen (v / 1000000000) + 1
termination_by v
decreasing_by omega
theorem zaO : dlen 0 = 0 := by rw [dlen]; rfl
theorem ze2 {v : Nat} (h : v ≠ 0) : dlen v = dlen (v / 1000000000) + 1 := by rw [dlen, if_neg h]
theorem zaH (n : Nat) : 0 < 1000000000 ^ n := Nat.pow_pos (by decide)
theorem zaD (v : Nat) : v < 1000000000 ^ dlen v := by
 induction v using Nat.strongRecOn with
 | _ v ih =>
  by_cases h : v = 0
  ·subst h; exact zaH _
  ·rw [ze2 h, Nat.pow_succ];have := ih (v / 1000000000) (by omega);omega
theorem za3 : ∀ {n v : Nat}, v < 1000000000 ^ n → dlen v ≤ n
 | 0, v, h => by
  have : v = 0 := by rw [Nat.pow_zero] at h; omega
  subst this; rw [zaO]; exact Nat.le_refl _
 | n + 1, v, h => by
  by_cases h0 : v = 0
  ·subst h0; rw [zaO]; omega
  ·rw [ze2 h0];rw [Nat.pow_succ] at h;have := za3 (n := n) (v := v / 1000000000) (by omega);omega
theorem ziL {n v : Nat} (h : 1000000000 ^ n ≤ v) : n + 1 ≤ dlen v := by
 rcases Nat.lt_or_ge n (dlen v) with h1 | h1
 ·exact h1
 ·have := zaD v;have h2 := Nat.pow_le_pow_right (n := 1000000000) (by decide) h1;omega
theorem zio {v : Nat} (h : v ≠ 0) : 1000000000 ^ (dlen v - 1) ≤ v := by
 rcases Nat.lt_or_ge v (1000000000 ^ (dlen v - 1)) with h1 | h1
 ·have := za3 h1;rw [ze2 h] at this;omega
 ·exact h1
theorem zaZ {x y : Nat} (h : x ≤ y) : dlen x ≤ dlen y := za3 (Nat.lt_of_le_of_lt h (zaD y))
theorem zbW {v : Nat} : dlen v = 0 ↔ v = 0 := by
 constructor
 ·intro h;rcases Nat.eq_zero_or_pos v with e | e
  ·exact e
  ·rw [ze2 (by omega)] at h; omega
 ·rintro rfl; exact zaO
theorem ze3 {v : Nat} (h0 : v ≠ 0) (h : v < 1000000000) : dlen v = 1 := by
 rw [ze2 h0, Nat.div_eq_of_lt h, zaO]
def dg (v : Nat) : List Int := pw (dlen v) v
theorem zaQ (v : Nat) : (dg v).length = dlen v := zaK _ _
theorem zer : dg 0 = [] := by unfold dg; rw [zaO]; rfl
theorem dg_dig (v : Nat) : DigL (dg v) := zeH _ _
theorem zrK {v : Nat} (h0 : v ≠ 0) (h : v < 1000000000) : dg v = [(v : Int)] := by
 unfold dg; rw [ze3 h0 h]; simp [pw, Nat.mod_eq_of_lt h]
theorem zeg : ∀ {m n v : Nat}, m ≤ n → (pw n v).take m = pw m v
 | 0, _, _, _ => rfl
 | m + 1, 0, _, h => by omega
 | m + 1, n + 1, v, h => by
  simp only [pw, List.take_succ_cons];rw [zeg (by omega)]
theorem zbQ (v k : Nat) : v % 1000000000 ^ (k + 1) = v / 1000000000 ^ k % 1000000000 * 1000000000 ^ k + v % 1000000000 ^ k := by
 rw [Nat.pow_succ, Nat.mod_mul];rw [Nat.mul_comm, Nat.add_comm]
theorem ziZ {n v : Nat} : ∀ k, k ≤ n → trimAt (pw n v) k = dlen (v % 1000000000 ^ k)
 | 0, _ => by simp [trimAt, Nat.mod_one, zaO]
 | k + 1, h => by
  simp only [trimAt];rw [zgG (by omega), ziZ k (by omega), zbQ];have hlt := Nat.mod_lt (v / 1000000000 ^ k) (show 0 < 1000000000 by omega);have hr := Nat.mod_lt v (zaH k);obtain ⟨d, hd⟩ : ∃ d, d = v / 1000000000 ^ k % 1000000000 := ⟨_, rfl⟩
  rw [← hd] at hlt ⊢;by_cases e : d = 0
  ·subst e; simp
  ·rw [if_neg (by intro h; simp only [Option.some.injEq] at h; omega)];have h1 : 1000000000 ^ k ≤ d * 1000000000 ^ k := Nat.le_mul_of_pos_left _ (by omega);have h2 := ziL (n := k) (v := d * 1000000000 ^ k + v % 1000000000 ^ k) (by omega);have h3 : d * 1000000000 ^ k ≤ 999999999 * 1000000000 ^ k := Nat.mul_le_mul_right _ (by omega);have h4 := za3 (n := k + 1) (v := d * 1000000000 ^ k + v % 1000000000 ^ k) (by rw [Nat.pow_succ]; omega);omega
theorem zck {n v : Nat} (h : v < 1000000000 ^ n) : trimN (pw n v) = dlen v := by
 unfold trimN;rw [zaK, ziZ n (Nat.le_refl _), Nat.mod_eq_of_lt h]
theorem zia (v : Nat) : trimN (dg v) = dlen v := zck (zaD v)
theorem zfa {n v : Nat} (h : v < 1000000000 ^ n) : (pw n v).take (dlen v) = dg v := zeg (za3 h)
theorem zlN {n m x y : Nat} : ∀ k, k ≤ n → k ≤ m → cmpWT (pw n x) (pw m y) k = if x % 1000000000 ^ k < y % 1000000000 ^ k then -1 else if y % 1000000000 ^ k < x % 1000000000 ^ k then 1 else 0
 | 0, _, _ => by simp [cmpWT, Nat.mod_one]
 | k + 1, h, h' => by
  simp only [cmpWT];rw [zgG (by omega), zgG (by omega), zlN k (by omega) (by omega), zbQ, zbQ y];have hr := Nat.mod_lt x (zaH k);have hs := Nat.mod_lt y (zaH k);obtain ⟨d, hd⟩ : ∃ d, d = x / 1000000000 ^ k % 1000000000 := ⟨_, rfl⟩
  obtain ⟨e, he⟩ : ∃ d, d = y / 1000000000 ^ k % 1000000000 := ⟨_, rfl⟩
  obtain ⟨P, hP⟩ : ∃ P, P = 1000000000 ^ k := ⟨_, rfl⟩
  rw [← hd, ← he, ← hP];rw [← hP] at hr hs;simp only [Option.getD_some];rcases Nat.lt_trichotomy d e with h1 | h1 | h1
  ·have : (d + 1) * P ≤ e * P := Nat.mul_le_mul_right _ h1;rw [Nat.add_mul] at this;rw [if_pos (by omega), if_pos (by omega)]
  ·subst h1;have e1 : ¬ (((d : Nat) : Int) < d) := by omega
   have e2 : ¬ (((d : Nat) : Int) > d) := by omega
   rw [if_neg e1, if_neg e2];have e3 : (d * P + x % P < d * P + y % P) = (x % P < y % P) := by rw [eq_iff_iff]; omega
   have e4 : (d * P + y % P < d * P + x % P) = (y % P < x % P) := by rw [eq_iff_iff]; omega
   simp only [e3, e4]
  ·have : (e + 1) * P ≤ d * P := Nat.mul_le_mul_right _ h1;rw [Nat.add_mul] at this;rw [if_neg (by omega), if_pos (by omega), if_neg (by omega), if_pos (by omega)]
theorem zhh (x y : Nat) : cmpW (dg x) (dg y) = if x < y then -1 else if y < x then 1 else 0 := by
 unfold cmpW;rw [zaQ, zaQ];by_cases h : dlen x = dlen y
 ·rw [if_neg (by omega)];unfold dg;rw [zlN _ (Nat.le_refl _) (by omega), Nat.mod_eq_of_lt (zaD x), Nat.mod_eq_of_lt (by rw [h]; exact zaD y)]
 ·rw [if_pos h];rcases Nat.lt_or_ge (dlen x) (dlen y) with h1 | h1
  ·rw [if_pos h1]
   have : x < y := by
    rcases Nat.lt_or_ge x y with h2 | h2
    ·exact h2
    ·have := zaZ h2; omega
   rw [if_pos this]
  ·rw [if_neg (by omega)]
   have : y < x := by
    rcases Nat.lt_or_ge y x with h2 | h2
    ·exact h2
    ·have := zaZ h2; omega
   rw [if_neg (by omega), if_pos this]
end Go.Proofs.YtlejimjgagfalaaGreatDoor
