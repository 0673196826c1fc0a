import Derived.Test.YtlejimjgagfalaaGreatDoorWrT
import Derived.Test.YtlejimjgagfalaaGreatDoorQaB
import Derived.Test.YtlejimjgagfalaaGreatDoorOpA
import Derived.Shelf.SlSortCmp.WholeK
import Derived.Shelf.SlGeneric
import Derived.Test.YtlejimjgagfalaaGreatDoorProg
import Derived.Test.YtlejimjgagfalaaGreatDoorHaC
import Derived.Test.YtlejimjgagfalaaGreatDoorStA
noncomputable section
namespace Go.Proofs.YtlejimjgagfalaaGreatDoor
open Go Go.Den
set_option maxRecDepth 100000
theorem ziY {l : List Mk} {lim : Int} : truthB (levV l lim) (levE l lim) (levE l lim) (if levE l lim = 0 then levelB l lim else false) = true := by
 unfold truthB levV;by_cases h : levE l lim = 0
 ·simp [h]
 ·simp [h]
theorem zoR {l : List Mk} {lim : Int} (h : levE l lim = 0) : marksE l = 0 := by
 unfold levE firstL at h;by_cases e : marksE l = 0
 ·exact e
 ·simp [e] at h
theorem zov {h : AHeap} {lo : Nat} {q : Option Addr} {c : Nat} {L : List (Option ABlk)} {l : List Mk} (hs : SlAt (ext h lo L) 3 mk q l) (hn : l.length < 1000000) :
  Ret Tryz.prog 19 [.slice q l.length c] (ext h lo L) (lstV (nb h L.length) l) (ext h lo (L ++ lstL 3 mk l)) := by
 have := zmP (c := c) hs hn;simp only [zeR, zal] at this;exact this
set_option maxHeartbeats 16000000 in
theorem marks_w {H h : AHeap} {lo b0 cm : Nat} {qm : Option Addr} {v1 v2 : Value} {m : List Mk} {lim : Int} {Qn : St → Prop} {Qe : Nat → St → Prop} (hc : Closed H) (hc' : Closed h) (hE : Ext H h) (hG : Glo B0 h) (hb0 : h.get b0 = some (.cells [v1, v2, I lim] 0 false false)) (hm : SlAt h 3 mk qm m) (hlow : LowS qm cm m.length) (hn : m.length ≤ 259) :
  CT Tryz.prog none wNt wearC16 ⟨ofA [(2, .slice qm m.length cm), (4, .pointer (some ⟨b0, 0, none⟩))], [], ext h lo []⟩ Qn Qe (Go.Den.Fin Tryz.prog Tryz.f3.results H (fun u k => u = .bool true ∧ k = H)) := by
 have cl := fun lo L => zqy (H := ext h lo L) (c := cm) (most := lim) (hm.ext (zag hc')) hlow (by omega)
 have ow := fun lo (L : List (Option ABlk)) => zov (h := h) (lo := lo) (L := L) (c := cm) (hm.ext (zag hc')) (by omega)
 have tT : levE m lim = 0 → truthB (levV m lim) (levE m lim) (levE m lim) (levelB m lim) = true := fun u => by
  have := ziY (l := m) (lim := lim);rw [if_pos u] at this;exact this
 have tF : levE m lim ≠ 0 → truthB (levV m lim) (levE m lim) (levE m lim) false = true := fun u => by
  have := ziY (l := m) (lim := lim);rw [if_neg u] at this;exact this
 have gl : ∀ lo L, CT Tryz.prog none wNt wearC20 ⟨ofA [(2, .slice qm m.length cm)], [], ext (ext h lo L) (min lo h.fresh) []⟩ Qn Qe (Go.Den.Fin Tryz.prog Tryz.f3.results H (fun u k => u = .bool true ∧ k = H)) := fun lo L => zoP hc (zbp hc') (hE.trans (zag hc')) (Glo.ext hG) (hm.ext (zag hc')) hn
 cases m with
 | nil =>
  simp only [lstV, lstP, lstL, List.append_nil] at ow;have rm := fun lo L => zfi (H := ext h lo L) (q := none) (c := 0) (l := []) SlAt.nil (by simp)
  have rl := fun lo L => zhC (H := ext h lo L) (q := none) (c := 0) (l := []) (most := lim) SlAt.nil (by simp) (by simp)
  refine zst ?_;refine zq18 ?_;apply zac (ht := rfl); exact cl _ _; exact rfl;refine zst ?_;apply zax (by assumption); decide +kernel;refine zq5 ?_;apply zaC (ht := rfl); exact ow _ _; exact rfl;apply zaC (ht := rfl); exact rm _ _; exact rfl;refine zq12 ?_;apply zaS (hfree := rfl); exact zaw rfl (by exact zaj (by assumption) (by assumption)) rfl (by exact rfl); exact rfl;apply zaC (ht := rfl); exact outside24; exact rfl;apply zaC (ht := rfl); exact zh8; exact rfl;apply zcf (hfree := rfl); exact zaM rfl rfl rfl rfl rfl rfl rfl; exact rfl;apply zbc (ht := rfl) (hw := rfl); decide +kernel; exact ziC (l := [_, _]) (zaB (zaa rfl)) (by simp); exact rfl;refine zq14 ?_;apply zaz;refine zst ?_;apply zax (by assumption); decide +kernel;(iterate 4 (refine zq5 ?_));refine zq8 ?_;refine zq5 ?_;refine zdC rfl rfl (fun u => ?_) (fun u => ?_)
  ·have u : levE [] lim = 0 := by have u : (levE [] lim == 0) = true := u; simpa using u
   refine zq39 ?_;apply zf6 (hg := rfl) (hl := rfl) (ht := rfl); exact ow _ _; exact rfl;apply za1 (hfree := rfl) (hg := rfl) (hl := rfl); intro _; exact zbh rfl rfl; exact rfl;apply zbv (hfree := rfl) (hg := rfl) (hl := rfl); exact zaw rfl (by exact zaj (by assumption) (by assumption)) rfl (by exact rfl); exact rfl;apply zf6 (hg := rfl) (hl := rfl) (ht := rfl); exact rl _ _; exact rfl;refine zq38 ?_;apply zaC (ht := rfl); exact zf1; exact rfl;apply zau (hfree := rfl); intro _; exact zeo rfl rfl; exact rfl;apply zaz;refine zah rfl ?_ ?_
   ·exact congrArg (fun b => !b) (tT u)
   apply zbb;refine zcH (l' := [(2, .slice qm [].length cm)]) (h' := ext (ext h lo _) (min lo h.fresh) []) zsb zbT ?_;exact gl _ _
  ·have u : levE [] lim ≠ 0 := by have u : (levE [] lim == 0) = false := u; simpa using u
   (iterate 5 (apply zbu (hg := rfl) (hl := rfl) (hb := rfl); exact rfl));refine zq41 ?_;apply zaC (ht := rfl); exact zf1; exact rfl;apply zau (hfree := rfl); intro _; exact zeo rfl rfl; exact rfl;apply zaz;refine zah rfl ?_ ?_
   ·exact congrArg (fun b => !b) (tF u)
   apply zbb;refine zcH (l' := [(2, .slice qm [].length cm)]) (h' := ext (ext h lo _) (min lo h.fresh) []) zsb zbT ?_
   exact gl _ _
 | cons a0 r0 =>
  have ow : ∀ lo (L : List (Option ABlk)), Ret Tryz.prog 19 [.slice qm (a0 :: r0).length cm] (ext h lo L) (.slice (some ⟨(ext h lo L).fresh, 0, none⟩) (a0 :: r0).length (a0 :: r0).length) ((ext h lo L).add (.cells ((a0 :: r0).flatMap mk) 3 true false)) := fun lo L => by
   have := ow lo L;rw [zal, za2];exact this
  have rm := fun lo L b1 (hs : SlAt (ext h lo L) 3 mk (some ⟨b1, 0, none⟩) (a0 :: r0)) => zfi (c := (a0 :: r0).length) hs (by omega)
  refine zst ?_;refine zq18 ?_;apply zac (ht := rfl); exact cl _ _; exact rfl;refine zst ?_;apply zax (by assumption); decide +kernel;refine zq5 ?_;refine zbk (v := fun b => .slice (some ⟨b, 0, none⟩) (a0 :: r0).length (a0 :: r0).length) (x := .cells ((a0 :: r0).flatMap mk) 3 true false) rfl rfl rfl (ow _ _) rfl ?_;refine zbc rfl rfl (by decide +kernel) (rm _ _ _ (zbs (z := 3) (s := true) (ro := false) zgR (zaa (by simp)))) rfl ?_;refine zq12 ?_;apply zaS (hfree := rfl); exact zaw rfl (by exact zaj (by assumption) (by assumption)) rfl (by exact rfl); exact rfl;apply zaC (ht := rfl); exact outside24; exact rfl;apply zaC (ht := rfl); exact zh8; exact rfl;apply zcf (hfree := rfl); exact zaM rfl rfl rfl rfl rfl rfl rfl; exact rfl;apply zbc (ht := rfl) (hw := rfl); decide +kernel; exact ziC (l := [_, _]) (zaB (zaa rfl)) (by simp); exact rfl;refine zq14 ?_;apply zaz;refine zst ?_;apply zax (by assumption); decide +kernel;(iterate 4 (refine zq5 ?_));refine zq8 ?_;refine zq5 ?_;refine zdC rfl rfl (fun u => ?_) (fun u => ?_)
  ·have u : levE (a0 :: r0) lim = 0 := by have u : (levE (a0 :: r0) lim == 0) = true := u; simpa using u
   have gm : ∀ x ∈ a0 :: r0, GoodM x := (zd4 (zoR u)).2;have rl := fun lo L b1 (hs : SlAt (ext h lo L) 3 mk (some ⟨b1, 0, none⟩) (a0 :: r0)) => zhC (c := (a0 :: r0).length) (most := lim) hs (by omega) gm
   refine zq39 ?_;refine zn2 (v := fun b => .slice (some ⟨b, 0, none⟩) (a0 :: r0).length (a0 :: r0).length) (x := .cells ((a0 :: r0).flatMap mk) 3 true false) rfl rfl rfl rfl (by decide +kernel) (ow _ _) rfl ?_;apply za1 (hfree := rfl) (hg := rfl) (hl := rfl); intro _; exact zbh rfl rfl; exact rfl;apply zbv (hfree := rfl) (hg := rfl) (hl := rfl); exact zaw rfl (by exact zaj (by assumption) (by assumption)) rfl (by exact rfl); exact rfl;refine zn3 rfl rfl rfl rfl (by decide +kernel) (rl _ _ _ (zbs (z := 3) (s := true) (ro := false) zgR (zaa (by simp)))) rfl ?_;refine zq38 ?_;apply zaC (ht := rfl); exact zf1; exact rfl;apply zau (hfree := rfl); intro _; exact zeo rfl rfl; exact rfl;apply zaz;refine zah rfl ?_ ?_
   ·exact congrArg (fun b => !b) (tT u)
   apply zbb;refine zcH (l' := [(2, .slice qm (a0 :: r0).length cm)]) (h' := ext (ext h lo _) (min lo h.fresh) []) zsb zbT ?_;exact gl _ _
  ·have u : levE (a0 :: r0) lim ≠ 0 := by have u : (levE (a0 :: r0) lim == 0) = false := u; simpa using u
   (iterate 5 (apply zbu (hg := rfl) (hl := rfl) (hb := rfl); exact rfl));refine zq41 ?_;apply zaC (ht := rfl); exact zf1; exact rfl;apply zau (hfree := rfl); intro _; exact zeo rfl rfl; exact rfl;apply zaz;refine zah rfl ?_ ?_
   ·exact congrArg (fun b => !b) (tF u)
   apply zbb;refine zcH (l' := [(2, .slice qm (a0 :: r0).length cm)]) (h' := ext (ext h lo _) (min lo h.fresh) []) zsb zbT ?_;exact gl _ _
end Go.Proofs.YtlejimjgagfalaaGreatDoor
noncomputable section
namespace Go.Den
open Go.Sort Go.Proofs
abbrev FlV := {v : Value // flatC v = true}
instance : Inhabited FlV := ⟨⟨.bool false, rfl⟩⟩
structure SameR (A : Array Value) (B : Array FlV) : Prop where
 size : A.size = B.size
 get : ∀ j, j < A.size → A[j]! = (B[j]!).val
theorem SameR.holds {A : Array Value} {B : Array FlV} (h : SameR A B) {w : World} {blk off : Nat} (hB : Holds Subtype.val w blk off B) : Holds id w blk off A := fun j hj => by
 have := hB j (by rw [← h.size]; exact hj);rw [h.get j hj]; exact this
theorem SameR.put {A : Array Value} {B : Array FlV} (h : SameR A B) (off : Nat) (c : Array Value) : putCells id off A c = putCells Subtype.val off B c := by
 unfold putCells
 congr 1
 funext k x
 rw [h.size];by_cases hk : off ≤ k ∧ k < off + B.size
 ·rw [if_pos hk, if_pos hk];exact h.get _ (by rw [h.size]; omega)
 ·rw [if_neg hk, if_neg hk]
section
variable {α : Type} [Inhabited α] {enc : α → List Value} {k : Nat}
theorem flat_at (hk : ∀ x, (enc x).length = k) : ∀ (T : List α) (t : Nat), t < T.length * k → (T.flatMap enc)[t]? = (enc (T[t / k]?.getD default))[t % k]?
 | [], t, h => by simp at h
 | a :: r, t, h => by
  have hk0 : 0 < k := by
   rcases Nat.eq_zero_or_pos k with e | e
   ·subst e; simp at h
   ·exact e
  rw [List.flatMap_cons];rcases Nat.lt_or_ge t k with h1 | h1
  ·rw [List.getElem?_append_left (by rw [hk]; exact h1), Nat.div_eq_of_lt h1, Nat.mod_eq_of_lt h1]; rfl
  ·rw [List.getElem?_append_right (by rw [hk]; exact h1), hk]
   have h2 : t - k < r.length * k := by
    rw [List.length_cons, Nat.succ_mul] at h; omega
   rw [flat_at hk r (t - k) h2];obtain ⟨u, hu⟩ : ∃ u, t = u + k := ⟨t - k, by omega⟩
   subst hu;rw [Nat.add_sub_cancel, Nat.add_div_right _ hk0, Nat.add_mod_right]; rfl
def flT (hf : ∀ x, (enc x).all flatC = true) (T : List α) : List FlV := (T.flatMap enc).attachWith _ (fun v hv => by
 obtain ⟨y, _, hy⟩ := List.mem_flatMap.1 hv;exact List.all_eq_true.1 (hf y) v hy)
omit [Inhabited α] in
theorem zfs (hf : ∀ x, (enc x).all flatC = true) (T : List α) : (flT hf T).map Subtype.val = T.flatMap enc := List.attachWith_map_subtype_val _
omit [Inhabited α] in
theorem lenK (hk : ∀ x, (enc x).length = k) : ∀ T : List α, (T.flatMap enc).length = T.length * k
 | [] => by simp
 | a :: r => by rw [List.flatMap_cons, List.length_append, hk, lenK hk r, List.length_cons, Nat.succ_mul]; omega
theorem zi9 (hk : ∀ x, (enc x).length = k) (hf : ∀ x, (enc x).all flatC = true) (T : List α) : SameR (flatK enc k T.toArray) (flT hf T).toArray := by
 have hl : (flT hf T).length = T.length * k := by
  have := congrArg List.length (zfs hf T);rw [List.length_map, lenK hk] at this; exact this
 refine ⟨by rw [size_flatK]; simp [hl], fun j hj => ?_⟩;rw [size_flatK] at hj;have hj : j < T.length * k := by simpa using hj
 rw [get_flatK _ _ _ _ (by simpa using hj)];have h1 := flat_at hk T j hj;have hjl : j < (flT hf T).length := by omega
 have h2 : (T.flatMap enc)[j]? = some ((flT hf T)[j]).val := by
  rw [← zfs hf T, List.getElem?_map, List.getElem?_eq_getElem hjl]; rfl
 have hk0 : 0 < k := by
  rcases Nat.eq_zero_or_pos k with e | e
  ·subst e; simp at hj
  ·exact e
 have hd : j / k < T.length := Nat.div_lt_of_lt_mul (by rw [Nat.mul_comm]; exact hj);have hm : j % k < (enc T[j / k]).length := by rw [hk]; exact Nat.mod_lt _ hk0
 rw [h2, List.getElem?_eq_getElem hd, Option.getD_some, List.getElem?_eq_getElem hm, Option.some.injEq] at h1;have e1 : (T.toArray)[j / k]! = T[j / k] := by simp [hd]
 have e2 : ((flT hf T).toArray)[j]! = (flT hf T)[j] := by simp [hjl]
 rw [e1, e2, h1];simp [hm]
theorem znc (hk : ∀ x, (enc x).length = k) (hf : ∀ x, (enc x).all flatC = true) (hk0 : 0 < k) {P : Program} {f g : FuncId} {H : AHeap} {b z c : Nat} {s : Bool} {T : List α} {R : List α → Prop} (henter : ∀ args w, (callFunc f args).run P w = .ok (.enter f args) w)
  (hb : own b = true) (hg : H.get b = some (.cells (T.flatMap enc) z s false)) (hR : ∀ T', R T' → T'.length = T.length)
  (hcall : ∀ blk cap w, HoldsK enc k w blk 0 T.toArray → blk < w.heap.size → Calls P f #[.slice (some ⟨blk, 0, none⟩) T.length cap, .func (.func g) #[] #[]] w fun e w' => e = .returned (.tuple #[]) ∧ ∃ T' n os, R T' ∧ w' = sortWorldK enc k w blk 0 n T'.toArray os) :
  CallT P f [.slice (some ⟨b, 0, none⟩) T.length c, .func (.func g) #[] ⟨[]⟩] H (fun v h' => v = packA [] ∧ ∃ T', R T' ∧ h' = H.put b (.cells (T'.flatMap enc) z s false)) := by
 refine ⟨henter, fun Γ w args' hr _ ha => ?_⟩;have hg' : H.get b = some (.cells ((flT hf T).map Subtype.val) z s false) := by rw [zfs]; exact hg
 cases ha with
 | cons hv hn =>
  cases hn with
  | cons hf2 hn2 =>
   cases hn2
   cases hf2 with
   | func a1 a2 =>
    cases a1;cases a2
    cases hv with
    | slice hi hc =>
     rename_i c' i;obtain ⟨rc, e, fz, h1, h2, h3, h4, h5⟩ := row_of (g := Subtype.val) (fun x : FlV => x.property) hr hg' hi;have hlt := (Array.getElem?_eq_some_iff.1 h1).1;rw [h2];refine callsIn_wide.2 ((hcall i.real c' w ((zi9 hk hf T).holds h4) hlt).mono ?_)
     rintro e2 w' ⟨rfl, T', n, os, hRT, rfl⟩
     have hl : (flT hf T').length = (flT hf T).length := by
      have e1 := congrArg List.length (zfs hf T);have e2 := congrArg List.length (zfs hf T');rw [List.length_map, lenK hk] at e1 e2;rw [e1, e2, hR T' hRT]
     obtain ⟨r1, a1⟩ := hr.put hg' rfl hb hi (zmx (g := Subtype.val) (n := n) (d := (flT hf T').toArray) h1) (h5 _ hl);obtain ⟨r2, a2⟩ := zk6 r1 os
     have ew : sortWorldK enc k w i.real 0 n T'.toArray os = grow (putRow Subtype.val (Go.Sort.ahead w n) i.real 0 (flT hf T').toArray) os := by
      show grow (mapBlock _ _ (putCells id 0 (flatK enc k T'.toArray))) os = grow (mapBlock _ _ (putCells Subtype.val 0 (flT hf T').toArray)) os
      congr 2
      funext cc
      exact (zi9 hk hf T').put 0 cc
     rw [ew];rw [zfs] at r2 a1 a2;exact ⟨_, packA [], _, Γ, rfl, ⟨rfl, T', hRT, rfl⟩, r2, a1.trans a2, .tuple .nil⟩
end
end Go.Den
namespace Go.Proofs
open Go.Shelf
def Tryz.sortBk_ren : Go.Shelf.Ren := ⟨fun | 6 => 93 | 15 => 116 | 14 => 131 | 28 => 163 | 29 => 164 | 20 => 173 | 21 => 174 | 22 => 175 | 23 => 176 | 24 => 177 | 25 => 178 | 26 => 179 | 27 => 180 | 46 => 210 | 47 => 206 | 48 => 207 | 49 => 211 | 50 => 212 | 57 => 237 | n => n, fun | 22 => 23 | 24 => 73 | 25 => 177 | 3 => 3 | 39 => 204 | 0 => 0 | 53 => 246 | 55 => 199 | 4 => 4 | 46 => 239 | 45 => 238 | 50 => 243 | 5 => 5 | 9 => 9 | 66 => 278 | 70 => 282 | 76 => 310 | 77 => 311 | n => n, fun | n => n⟩
theorem Tryz.sortBk : Go.Proofs.SlLaysF0.n6 Tryz.prog Tryz.sortBk_ren := {
 mixed := by kernel_rfl
 f6 := ⟨Tryz.f93.name, by decide, Tryz.func93.trans (congrArg some (by kernel_rfl))⟩
 f14 := ⟨Tryz.f131.name, by decide, Tryz.func131.trans (congrArg some (by kernel_rfl))⟩
 f15 := Tryz.func116.trans (congrArg some (by kernel_rfl))
 f20 := ⟨Tryz.f173.name, by decide, Tryz.func173.trans (congrArg some (by kernel_rfl))⟩
 f21 := ⟨Tryz.f174.name, by decide, Tryz.func174.trans (congrArg some (by kernel_rfl))⟩
 f22 := ⟨Tryz.f175.name, by decide, Tryz.func175.trans (congrArg some (by kernel_rfl))⟩
 f23 := ⟨Tryz.f176.name, by decide, Tryz.func176.trans (congrArg some (by kernel_rfl))⟩
 f24 := ⟨Tryz.f177.name, by decide, Tryz.func177.trans (congrArg some (by kernel_rfl))⟩
 f25 := ⟨Tryz.f178.name, by decide, Tryz.func178.trans (congrArg some (by kernel_rfl))⟩
 f26 := ⟨Tryz.f179.name, by decide, Tryz.func179.trans (congrArg some (by kernel_rfl))⟩
 f27 := ⟨Tryz.f180.name, by decide, Tryz.func180.trans (congrArg some (by kernel_rfl))⟩
 f28 := Tryz.func163.trans (congrArg some (by kernel_rfl))
 f29 := Tryz.func164.trans (congrArg some (by kernel_rfl))
 f46 := ⟨Tryz.f210.name, by decide, Tryz.func210.trans (congrArg some (by kernel_rfl))⟩
 f47 := Tryz.func206.trans (congrArg some (by kernel_rfl))
 f48 := Tryz.func207.trans (congrArg some (by kernel_rfl))
 f49 := ⟨Tryz.f211.name, by decide, Tryz.func211.trans (congrArg some (by kernel_rfl))⟩
 f50 := ⟨Tryz.f212.name, by decide, Tryz.func212.trans (congrArg some (by kernel_rfl))⟩
 f57 := ⟨Tryz.f237.name, by decide, Tryz.func237.trans (congrArg some (by kernel_rfl))⟩
 t0 := Tryz.underlying0
 a0 := Tryz.isAgg0
 z0 := Tryz.sizeOf0
 v0 := Tryz.zeroValue0
 t3 := Tryz.underlying3
 a3 := Tryz.isAgg3
 z3 := Tryz.sizeOf3
 v3 := Tryz.zeroValue3
 t4 := Tryz.underlying4
 a4 := Tryz.isAgg4
 z4 := Tryz.sizeOf4
 v4 := Tryz.zeroValue4
 t5 := Tryz.underlying5
 a5 := Tryz.isAgg5
 z5 := Tryz.sizeOf5
 v5 := Tryz.zeroValue5
 t9 := Tryz.underlying9
 a9 := Tryz.isAgg9
 z9 := Tryz.sizeOf9
 v9 := Tryz.zeroValue9
 t22 := Tryz.underlying23
 a22 := Tryz.isAgg23
 z22 := Tryz.sizeOf23
 v22 := Tryz.zeroValue23
 t25 := Tryz.underlying177
 a25 := Tryz.isAgg177
 z25 := Tryz.sizeOf177
 v25 := Tryz.zeroValue177
 t39 := Tryz.underlying204
 a39 := Tryz.isAgg204
 z39 := Tryz.sizeOf204
 v39 := Tryz.zeroValue204
 t45 := Tryz.underlying238
 a45 := Tryz.isAgg238
 z45 := Tryz.sizeOf238
 v45 := Tryz.zeroValue238
 t46 := Tryz.underlying239
 a46 := Tryz.isAgg239
 z46 := Tryz.sizeOf239
 v46 := Tryz.zeroValue239
 t50 := Tryz.underlying243
 a50 := Tryz.isAgg243
 z50 := Tryz.sizeOf243
 v50 := Tryz.zeroValue243
 t53 := Tryz.underlying246
 a53 := Tryz.isAgg246
 z53 := Tryz.sizeOf246
 v53 := Tryz.zeroValue246
 t55 := Tryz.underlying199
 a55 := Tryz.isAgg199
 z55 := Tryz.sizeOf199
 v55 := Tryz.zeroValue199
 t66 := Tryz.underlying278
 a66 := Tryz.isAgg278
 z66 := Tryz.sizeOf278
 v66 := Tryz.zeroValue278
 t70 := Tryz.underlying282
 a70 := Tryz.isAgg282
 z70 := Tryz.sizeOf282
 v70 := Tryz.zeroValue282
 t76 := Tryz.underlying310
 a76 := Tryz.isAgg310
 z76 := Tryz.sizeOf310
 v76 := Tryz.zeroValue310
 t77 := Tryz.underlying311
 a77 := Tryz.isAgg311
 z77 := Tryz.sizeOf311
 v77 := Tryz.zeroValue311 }
end Go.Proofs
noncomputable section
namespace Go.Proofs.YtlejimjgagfalaaGreatDoor
open Go Go.Den
set_option maxRecDepth 100000
def chkI (t : List Tb) (l : List Bk) (A : List Int) (i : Nat) : Int := match l[i]?, A[i]? with
 | some x, some n => if n < 0 ∨ n ≥ t.length then 10 else if (t[n.toNat]?.elim false fun y => decide (y.kind = x.kind)) = false then 13 else if ((List.range i).any fun k => decide (A[k]? = some n) && l[k]?.elim false fun o => meetB o x) = true then 17 else 0
 | _, _ => 0
def chkA (t : List Tb) (l : List Bk) (A : List Int) : Int := firstL ((List.range A.length).map (chkI t l A))
def casE (t : List Tb) (l : List Bk) (A : List Int) : Int := firstL [bothE t l, whenL ((A.length : Int) != l.length) 2, chkA t l A]
section
variable {t : List Tb} {l : List Bk} {A : List Int} {i : Nat}
theorem zpA (hi : i < A.length) (h : ∀ j, j < i → chkI t l A j = 0) (hne : chkI t l A i ≠ 0) : chkA t l A = chkI t l A i := by
 unfold chkA;have := zdM (l := (List.range A.length).map (chkI t l A)) (i := i) (by simpa using hi) (fun j hj hji => by simp; exact h j hji) (by simpa using hne);simpa using this
theorem zjV (h : ∀ j, j < A.length → chkI t l A j = 0) : chkA t l A = 0 := by
 unfold chkA;exact zcD fun j hj => by simp; exact h j (by simpa using hj)
theorem zhj (h : i < l.length) (hA : i < A.length) : chkI t l A i = if A[i] < 0 ∨ A[i] ≥ t.length then 10 else if (t[A[i].toNat]?.elim false fun y => decide (y.kind = l[i].kind)) = false then 13 else if ((List.range i).any fun k => decide (A[k]? = some A[i]) && l[k]?.elim false fun o => meetB o l[i]) = true then 17 else 0 := by
 unfold chkI;rw [List.getElem?_eq_getElem h, List.getElem?_eq_getElem hA]
end
set_option maxHeartbeats 16000000 in
theorem ze9 {H : AHeap} {q r w : Option Addr} {c d e : Nat} {t : List Tb} {l : List Bk} {A : List Int} (hs : SlAt H 2 tb q t) (hlow : LowS q c t.length) (hn : t.length < 1000000) (hr : SlAt H 4 bk r l) (hlow2 : LowS r d l.length) (hm : l.length < 1000000) (hw : SlAt H 1 i1 w A) (hA : A.length < 1000000) :
  Ret Tryz.prog 45 [.slice q t.length c, .slice r l.length d, .slice w A.length e] H (I (casE t l A)) H := by
 refine zae Tryz.func45 rfl rfl rfl fun hc => ?_
 refine zst ?_;apply zac (ht := rfl); exact zkK (hs.ext (zag hc)) hlow (by omega) (hr.ext (zag hc)) hlow2 (by omega); exact rfl;refine zst ?_;refine zq0 ?_;apply zac (ht := rfl); exact when85; exact rfl;refine zq19 ?_;apply zac (ht := rfl); exact first84 (l := [_, _]) (zaB (zaa rfl)) (by simp); exact rfl;refine zst ?_;refine zq0 ?_;apply zaf;refine zai rfl (fun h1 => ?_) (fun h1 => ?_)
 ·have h1 : firstL [bothE t l, whenL ((A.length : Int) != l.length) 2] ≠ 0 := by simpa using h1
  have e : casE t l A = firstL [bothE t l, whenL ((A.length : Int) != l.length) 2] := by
   unfold casE;unfold firstL at h1 ⊢;by_cases k1 : bothE t l = 0
   ·by_cases k2 : whenL ((A.length : Int) != l.length) 2 = 0
    ·simp [k1, k2] at h1
    ·simp [k1, k2]
   ·simp [k1]
  rw [e];refine zst ?_;exact zab hc rfl rfl ⟨rfl, rfl⟩
 have h1 : firstL [bothE t l, whenL ((A.length : Int) != l.length) 2] = 0 := by simpa using h1
 have hz := za4 h1;have k1 : bothE t l = 0 := hz _ (by simp);have k2 := hz (whenL ((A.length : Int) != l.length) 2) (by simp)
 have hAl : A.length = l.length := by
  have k2 := zdy k2 (by decide);have : (A.length : Int) = l.length := by simpa using k2
  omega
 have e : casE t l A = chkA t l A := by
  unfold casE;rw [k1, k2];unfold firstL;by_cases k : chkA t l A = 0 <;> simp [k]
 rw [e];clear e hz h1 k1 k2;have hcap := hlow2.cap;refine zst ?_;apply zar;refine zaA (α := Nat × List (Option ABlk)) (fun a => [(0, .slice q t.length c), (1, .slice r l.length d), (2, .slice w A.length e), (26, .slice w A.length e), (27, I A.length), (28, I a.1)]) (fun a => ext H H.fresh a.2) (fun a => a.1 ≤ A.length ∧ ∀ j, j < a.1 → chkI t l A j = 0) (fun a => A.length - a.1) (fun a ha ih => ?_) (0, _) ⟨Nat.zero_le _, fun j h => absurd h (Nat.not_lt_zero _)⟩ zsb (.refl _);obtain ⟨i, L⟩ := a;obtain ⟨hi, hJ⟩ := ha;simp only at hi hJ ih ⊢;have ih' := fun i' L' a1 a2 a3 => ih (i', L') a1 ⟨a2, a3⟩
 simp only at ih';clear ih;refine zst ?_;refine zq0 ?_;refine zst ?_;refine zai rfl (fun h1 => ?_) (fun h1 => ?_)
 ·simp only [decide_eq_true_eq, Int.ofNat_lt] at h1;have hil : i < l.length := by omega
  obtain ⟨b2, o2, cs2, z2, st2, ro2, rfl, hg2, hw2⟩ := hr.out (by intro e; rw [e] at hil; simp at hil);obtain ⟨b3, o3, cs3, z3, st3, ro3, rfl, hg3, hw3⟩ := hw.out (by intro e; rw [e] at h1; simp at h1);have hci := zhj (t := t) hil h1;have bad : chkI t l A i ≠ 0 → chkA t l A = chkI t l A i := zpA h1 hJ;obtain ⟨Z, hZ⟩ : ∃ Z, Z = (decide (A[i] < 0) || decide (A[i] ≥ t.length)) := ⟨_, rfl⟩
  obtain ⟨n, hnn⟩ : ∃ n, n = A[i] := ⟨_, rfl⟩
  rw [← hnn] at hZ hci;refine zst ?_;refine zq2 ?_;refine zq3 ?_;refine zst ?_;refine zq0 ?_;refine zs1 ?_;rw [← hnn];refine zdf [(0, .slice q t.length c), (1, .slice (some ⟨b2, o2, none⟩) l.length d), (2, .slice (some ⟨b3, o3, none⟩) A.length e), (8, I i), (9, I n), (26, .slice (some ⟨b3, o3, none⟩) A.length e), (27, I A.length), (28, I i), (40, .bool Z)] (ds := []) (h := ext H H.fresh L) ?_ ?_
  ·refine zan rfl rfl (fun u => ?_) (fun u => ?_)
   ·have u : decide (n < 0) = true := u;have e2 : Z = true := by rw [hZ, u]; rfl
    rw [e2];refine zst ?_;exact zaP zsb
   ·have u : decide (n < 0) = false := u;have e2 : Z = decide (n ≥ t.length) := by rw [hZ, u]; rfl
    rw [e2];refine zst ?_;refine zq1 ?_;refine zst ?_;exact zaP zsb
  refine zai rfl (fun u => ?_) (fun u => ?_)
  ·have u : Z = true := u;rw [hZ, Bool.or_eq_true, decide_eq_true_eq, decide_eq_true_eq] at u;rw [if_pos u] at hci;rw [bad (by rw [hci]; decide), hci];refine zst ?_;exact zab hc rfl rfl ⟨rfl, rfl⟩
  have u : Z = false := u;rw [hZ, Bool.or_eq_false_iff, decide_eq_false_iff_not, decide_eq_false_iff_not] at u;rw [if_neg (by omega)] at hci;obtain ⟨k, rfl⟩ : ∃ k : Nat, n = k := ⟨n.toNat, by omega⟩
  have hkt : k < t.length := by omega
  obtain ⟨b4, o4, cs4, z4, st4, ro4, rfl, hg4, hw4⟩ := hs.out (by intro e; rw [e] at hkt; simp at hkt);rw [Int.toNat_natCast, List.getElem?_eq_getElem hkt, Option.elim_some] at hci;clear u hZ;refine zst ?_;apply zax (by assumption); decide +kernel;(iterate 2 (refine zq5 ?_));refine zq6 ?_;refine zq12 ?_;refine zq24 ?_;(iterate 2 (refine zq5 ?_));refine zq6 ?_;refine zq12 ?_;refine zq24 ?_;apply zau (hfree := rfl); intro _; exact zbV rfl rfl rfl; exact rfl;apply zaz;refine zai rfl (fun u => ?_) (fun u => ?_)
  ·have u : (!byteL t[k].kind.data.toList l[i].kind.data.toList) = true := u;rw [zba] at u;rw [if_pos (by simpa using u)] at hci;rw [bad (by rw [hci]; decide), hci];refine zst ?_;exact zab hc rfl rfl ⟨rfl, rfl⟩
  have u : (!byteL t[k].kind.data.toList l[i].kind.data.toList) = false := u;rw [zba] at u;rw [if_neg (by simpa using u)] at hci;clear u;refine zst ?_;apply zad; exact zb9 rfl rfl rfl (by intro e; cases e) (by rintro _ ⟨⟩; rfl) (by omega); exact rfl;refine zst ?_;apply zar;refine zaA (α := Nat × List (Option ABlk)) (fun a => [(0, .slice (some ⟨b4, o4, none⟩) t.length c), (1, .slice (some ⟨b2, o2, none⟩) l.length d), (2, .slice (some ⟨b3, o3, none⟩) A.length e), (8, I i), (9, I k), (26, .slice (some ⟨b3, o3, none⟩) A.length e), (27, I A.length), (28, I i), (54, .slice (some ⟨b2, o2, none⟩) i d), (55, I i), (56, I a.1)]) (fun a => ext H H.fresh a.2) (fun a => a.1 ≤ i ∧ ∀ m (hm : m < l.length) (hmA : m < A.length), m < a.1 → ¬ (A[m] = (k : Int) ∧ meetB l[m] l[i] = true)) (fun a => i - a.1) (fun a ha ih2 => ?_) (0, L) ⟨Nat.zero_le _, fun m _ _ h => absurd h (Nat.not_lt_zero _)⟩ zsb (by simp only [List.map_nil, List.append_nil]; exact .refl _);clear L;obtain ⟨m, L⟩ := a;obtain ⟨hmi, hM⟩ := ha;simp only at hmi hM ih2 ⊢;have ih2' := fun m' L' a1 a2 a3 => ih2 (m', L') a1 ⟨a2, a3⟩
  simp only at ih2';clear ih2;refine zst ?_;refine zq0 ?_;refine zst ?_;refine zai rfl (fun h3 => ?_) (fun h3 => ?_)
  ·simp only [decide_eq_true_eq, Int.ofNat_lt] at h3;have hml : m < l.length := by omega
   have hmA : m < A.length := by omega
   obtain ⟨Y, hY⟩ : ∃ Y, Y = (decide (A[m] = (k : Int)) && meetB l[m] l[i]) := ⟨_, rfl⟩
   refine zst ?_;refine zq2 ?_;refine zq15 ?_;refine zst ?_;refine zq16 ?_;apply zcj;apply zax (by assumption); decide +kernel;(iterate 2 (refine zq5 ?_));refine zq6 ?_;refine zq7 ?_;refine zq5 ?_;refine zq8 ?_;refine zq5 ?_;rw [set_mid rfl];have hX : (L ++ [some (ABlk.cells (bk l[m]) 0 false false)])[L.length]? = some (some (.cells (bk l[m]) 0 false false)) := List.getElem?_concat_length;refine sd_J [(0, .slice (some ⟨b4, o4, none⟩) t.length c), (1, .slice (some ⟨b2, o2, none⟩) l.length d), (2, .slice (some ⟨b3, o3, none⟩) A.length e), (8, I i), (9, I k), (26, .slice (some ⟨b3, o3, none⟩) A.length e), (27, I A.length), (28, I i), (54, .slice (some ⟨b2, o2, none⟩) i d), (55, I i), (56, I m), (74, .bool Y)] (h := ext H H.fresh (L ++ [some (.cells (bk l[m]) 0 false false)])) ?_ ?_
   ·refine zdC rfl rfl (fun u => ?_) (fun u => ?_)
    ·have u : (A[m] == (k : Int)) = true := u;have e2 : Y = meetB l[m] l[i] := by rw [hY, decide_eq_true (by simpa using u)]; rfl
     rw [e2];apply zbv (hfree := rfl) (hg := rfl) (hl := rfl); exact zaw rfl (by exact zaa (getApp (by assumption))) rfl (by exact rfl); exact rfl;(iterate 2 (refine zq39 ?_));refine zq40 ?_;apply zbv (hfree := rfl) (hg := rfl) (hl := rfl); exact zaw rfl (by exact zaj (by assumption) (by assumption)) rfl (by exact zon (by assumption) (by omega)); exact rfl;apply zf6 (hg := rfl) (hl := rfl) (ht := rfl); exact meet_c; exact rfl;refine zq38 ?_;apply zaz;simp only [List.map_nil, List.append_nil];exact zaP zsb
    ·have u : (A[m] == (k : Int)) = false := u;have e2 : Y = false := by rw [hY, decide_eq_false (by simpa using u)]; rfl
     rw [e2];(iterate 6 (apply zbu (hg := rfl) (hl := rfl) (hb := rfl); exact rfl));refine zq41 ?_;apply zaz;simp only [List.map_nil, List.append_nil];exact zaP zsb
   refine zai rfl (fun u => ?_) (fun u => ?_)
   ·have u : Y = true := u;rw [hY, Bool.and_eq_true, decide_eq_true_eq] at u;rw [if_pos (List.any_eq_true.2 ⟨m, List.mem_range.2 h3, by rw [List.getElem?_eq_getElem hmA, List.getElem?_eq_getElem hml, u.1]; simp [u.2]⟩)] at hci;rw [bad (by rw [hci]; decide), hci];refine zst ?_;exact zab hc rfl rfl ⟨rfl, rfl⟩
   ·have u : Y = false := u;refine zst ?_;refine zq4 ?_;refine zst ?_;refine zaN zsb (.refl _) (ih2' (m + 1) _ (by omega) (by omega) fun m' h h' hlt => ?_);rcases Nat.lt_or_ge m' m with e3 | e3
    ·exact hM m' h h' e3
    ·obtain rfl : m' = m := by omega
     rintro ⟨a1, a2⟩
     rw [hY, a1, a2] at u; simp at u
  have h3 : m = i := by simp at h3; omega
  rw [h3] at hM
  rw [if_neg (fun hx => by
   obtain ⟨k', hk', e'⟩ := List.any_eq_true.1 hx;have hk' := List.mem_range.1 hk';rw [List.getElem?_eq_getElem (by omega : k' < A.length), List.getElem?_eq_getElem (by omega : k' < l.length)] at e';simp only [Bool.and_eq_true, decide_eq_true_eq, Option.some.injEq, Option.elim_some] at e';exact hM k' (by omega) (by omega) hk' e')] at hci
  apply zap;apply zaq; exact rfl;apply zc8;refine zq4 ?_;refine zst ?_;refine zaN zsb (.refl _) (ih' (i + 1) L (by omega) (by omega) fun j hj => ?_);rcases Nat.lt_or_ge j i with e3 | e3
  ·exact hJ j e3
  ·obtain rfl : j = i := by omega
   exact hci
 have h1 : i = A.length := by simp at h1; omega
 subst h1;rw [zjV hJ];apply zap;apply zaq; exact rfl;refine zst ?_;exact zab hc rfl rfl ⟨rfl, rfl⟩
end Go.Proofs.YtlejimjgagfalaaGreatDoor
