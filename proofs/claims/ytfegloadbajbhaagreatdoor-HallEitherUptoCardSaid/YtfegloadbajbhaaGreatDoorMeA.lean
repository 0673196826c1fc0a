/- HallEither: the plain law. -/
import Derived.Test.YtfegloadbajbhaaGreatDoorAsF
import Derived.Test.YtfegloadbajbhaaGreatDoorOpnE
import Derived.Test.YtfegloadbajbhaaGreatDoorPnH
import Derived.Test.YtfegloadbajbhaaGreatDoorFnL
import Derived.Test.YtfegloadbajbhaaGreatDoorBgB
import Derived.Test.YtfegloadbajbhaaGreatDoorAwake
import Derived.Test.YtfegloadbajbhaaGreatDoorSrL
import Derived.Test.YtfegloadbajbhaaGreatDoorSxM
import Derived.Test.YtfegloadbajbhaaGreatDoorElI
import Derived.Test.YtfegloadbajbhaaGreatDoorSxU
noncomputable section
namespace Go.Proofs.YtfegloadbajbhaaGreatDoor
open Go Go.Den

/-- the tables that bookings of a kind use, as they are met -/
def useK (l : List Bk) (a : List Int) (k : ByteArray) (j : Nat) : List Int := (List.range j).foldl (fun ks m => if (l[m]?.elim false fun x => decide (x.kind = k)) = true then addK ks (a[m]?.getD 0) else ks) []
theorem useK_succ {l : List Bk} {a : List Int} {k : ByteArray} {j : Nat} : useK l a k (j + 1) = if (l[j]?.elim false fun x => decide (x.kind = k)) = true then addK (useK l a k j) (a[j]?.getD 0) else useK l a k j := by
  unfold useK
  rw [List.range_succ, List.foldl_append]; rfl
theorem useK_mem {l : List Bk} {a : List Int} {k : ByteArray} : ∀ {j : Nat}, j ≤ l.length → (useK l a k j).Nodup ∧ ∀ x, x ∈ useK l a k j ↔ ∃ m, ∃ h : m < l.length, m < j ∧ l[m].kind = k ∧ a[m]?.getD 0 = x
  | 0, _ => ⟨.nil, fun x => by simp [useK]⟩
  | j + 1, hj => by
    obtain ⟨h1, h2⟩ := useK_mem (l := l) (a := a) (k := k) (j := j) (by omega)
    rw [useK_succ, List.getElem?_eq_getElem (by omega : j < l.length), Option.elim_some]
    by_cases e : l[j].kind = k
    · rw [if_pos (decide_eq_true e)]
      refine ⟨nodup_addK h1, fun x => ?_⟩
      rw [mem_addK, h2]
      constructor
      · rintro (⟨m, hm, m1, m2, m3⟩ | rfl)
        · exact ⟨m, hm, by omega, m2, m3⟩
        · exact ⟨j, by omega, by omega, e, rfl⟩
      · rintro ⟨m, hm, m1, m2, m3⟩
        rcases Nat.lt_or_ge m j with e2 | e2
        · exact .inl ⟨m, hm, e2, m2, m3⟩
        · obtain rfl : m = j := by omega
          exact .inr m3.symm
    · rw [if_neg (by simpa using e)]
      refine ⟨h1, fun x => ?_⟩
      rw [h2]
      constructor
      · rintro ⟨m, hm, m1, m2, m3⟩
        exact ⟨m, hm, by omega, m2, m3⟩
      · rintro ⟨m, hm, m1, m2, m3⟩
        rcases Nat.lt_or_ge m j with e2 | e2
        · exact ⟨m, hm, e2, m2, m3⟩
        · obtain rfl : m = j := by omega
          exact absurd m2 e
/-- a kind needs as many tables as its depth says -/
theorem use_depth {t : List Tb} {l : List Bk} {a : List Int} (hA : AsI t l l.length a) {i : Nat} (hi : i < l.length) (hl : ∀ x ∈ l, BkOk x) :
    1 ≤ (rdA l l[i].kind l.length).1 ∧ (cntD l l[i].kind (rdA l l[i].kind l.length).2 : Int) = (rdA l l[i].kind l.length).1 ∧ ((useK l a l[i].kind l.length).length : Int) = (rdA l l[i].kind l.length).1 := by
  obtain ⟨k, hk⟩ : ∃ k, k = l[i].kind := ⟨_, rfl⟩
  rw [← hk]
  have hb := rdA_best l k l.length (Nat.le_refl _)
  rw [List.take_length] at hb
  obtain ⟨d, hd⟩ : ∃ d, d = rdA l k l.length := ⟨_, rfl⟩
  rw [← hd] at hb ⊢
  have hall : ∀ m, m < l.length → m ∈ (ordL l).take l.length := fun m h => by
    rw [List.take_of_length_le (by rw [ordL_len]; exact Nat.le_refl _)]; exact mem_ordL.2 h
  have h1 : 1 ≤ d.1 := by
    have h2 := hb.ge l[i].frm ⟨l[i], List.getElem_mem hi, rfl⟩
    have h3 : 0 < cntD l k l[i].frm := List.countP_pos_iff.2 ⟨l[i], List.getElem_mem hi, isAt_iff.2 ⟨hk.symm, Int.le_refl _, (hl _ (List.getElem_mem hi)).lt⟩⟩
    omega
  obtain ⟨hc, hat⟩ := hb.at_ (by omega)
  refine ⟨h1, hat, ?_⟩
  obtain ⟨hn, hm⟩ := useK_mem (l := l) (a := a) (k := k) (j := l.length) (Nat.le_refl _)
  obtain ⟨U, hU⟩ : ∃ U, U = useK l a k l.length := ⟨_, rfl⟩
  rw [← hU] at hn hm ⊢
  have tab : ∀ m (h : m < l.length), l[m].kind = k → ∃ j : Nat, a[m]?.getD 0 = (j : Int) ∧ ∃ hj : j < t.length, t[j].kind = k ∧ cntK (t.take (j + 1)) k ≤ cntD l k l[m].frm := fun m h e => by
    obtain ⟨j, j1, j2, j3, j4⟩ := hA.asg m h (hall m h)
    refine ⟨j, by rw [j1]; rfl, j2, j3.trans e, ?_⟩
    rw [e] at j4; exact j4
  -- no more
  have le1 : (U.length : Int) ≤ d.1 := by
    obtain ⟨x, hx, hmax⟩ := max_at (l := U) (List.ne_nil_of_mem ((hm _).2 ⟨i, hi, hi, hk.symm, rfl⟩))
    obtain ⟨m, hml, _, m1, m2⟩ := (hm x).1 hx
    obtain ⟨j, j1, j2, j3, j4⟩ := tab m hml m1
    have hx' : x = (j : Int) := m2.symm.trans j1
    have h2 := hb.ge l[m].frm ⟨l[m], List.getElem_mem hml, rfl⟩
    have h3 : (U.map Int.toNat).length ≤ cntK (t.take (j + 1)) k := by
      unfold cntK
      refine idx_count (p := fun y : Tb => decide (y.kind = k)) (List.pairwise_map.2 (hn.imp_of_mem fun {p q} hp hq hne e => hne ?_)) fun n hn' => ?_
      · obtain ⟨y, hy, rfl⟩ := List.mem_map.1 hn'
        obtain ⟨mp, hp1, _, hp2, hp3⟩ := (hm y).1 hy
        obtain ⟨jp, e1, e2, e3, _⟩ := tab mp hp1 hp2
        have hle := hmax y hy
        have ej : y.toNat = jp := by omega
        rw [ej]
        refine ⟨by rw [List.length_take]; omega, ?_⟩
        rw [List.getElem_take]
        exact decide_eq_true e3
      · obtain ⟨mp, hp1, _, hp2, hp3⟩ := (hm p).1 hp
        obtain ⟨mq, hq1, _, hq2, hq3⟩ := (hm q).1 hq
        obtain ⟨jp, e1, _⟩ := tab mp hp1 hp2
        obtain ⟨jq, e2, _⟩ := tab mq hq1 hq2
        omega
    rw [List.length_map] at h3
    have h2 : (cntD l k l[m].frm : Int) ≤ d.1 := h2
    omega
  -- no fewer
  have le2 : d.1 ≤ (U.length : Int) := by
    rw [← hat]
    obtain ⟨M, hM⟩ : ∃ M, M = (List.range l.length).filter fun m => l[m]?.elim false (isAt k d.2) := ⟨_, rfl⟩
    have e1 : cntD l k d.2 = M.length := by unfold cntD; rw [countP_range, List.countP_eq_length_filter, hM]
    have hmM : ∀ m ∈ M, ∃ h : m < l.length, isAt k d.2 l[m] = true := fun m hm => by
      rw [hM] at hm
      obtain ⟨k1, k2⟩ := List.mem_filter.1 hm
      have k1 := List.mem_range.1 k1
      rw [List.getElem?_eq_getElem k1] at k2
      exact ⟨k1, k2⟩
    have hnd : M.Nodup := by rw [hM]; exact List.Pairwise.filter _ List.nodup_range
    have h4 : (M.map fun m => a[m]?.getD 0).Nodup := List.pairwise_map.2 (hnd.imp_of_mem fun {m m'} h1 h2 hne e => by
      obtain ⟨i1, p1⟩ := hmM m h1
      obtain ⟨i2, p2⟩ := hmM m' h2
      obtain ⟨j1, g1, _⟩ := hA.asg m i1 (hall m i1)
      obtain ⟨j2, g2, _⟩ := hA.asg m' i2 (hall m' i2)
      rw [g1, g2] at e
      simp only [Option.getD_some] at e
      have := hA.sep m m' i1 i2 hne (hall m i1) (hall m' i2) (by rw [g1, g2, e])
      obtain ⟨_, p3, p4⟩ := isAt_iff.1 p1
      obtain ⟨_, p5, p6⟩ := isAt_iff.1 p2
      have hx : meetB l[m] l[m'] = true := meetB_iff.2 ⟨by omega, by omega⟩
      rw [hx] at this; cases this)
    have h5 := h4.length_le_of_subset (l₂ := U) fun x hx => by
      obtain ⟨m, hm1, rfl⟩ := List.mem_map.1 hx
      obtain ⟨i1, p1⟩ := hmM m hm1
      exact (hm _).2 ⟨m, i1, i1, (isAt_iff.1 p1).1, rfl⟩
    rw [List.length_map] at h5
    omega
  omega
/-! ### bookings in another order -/
theorem bothE_of {t : List Tb} {l l' : List Bk} (h : bothE t l = 0) (hs : ∀ x ∈ l', x ∈ l) (hl : l'.length ≤ 256) : bothE t l' = 0 := by
  have ha := firstL_allZ h
  have h1 : tabsE t = 0 := ha _ (by simp)
  have h2 : booksE l = 0 := ha _ (by simp)
  have h3 := whenL_z (ha (whenL (unkB t l) 10) (by simp)) (by decide)
  have h4 : booksE l' = 0 := by
    unfold booksE at h2 ⊢
    by_cases e : l.length > 256
    · rw [if_pos e] at h2; exact absurd h2 (by decide)
    · rw [if_neg e] at h2
      rw [if_neg (by omega)]
      refine restG_none fun j hj => ?_
      rw [errG_at (err := fun _ x => bookE x) hj]
      obtain ⟨i, hi, e2⟩ := List.getElem_of_mem (hs _ (List.getElem_mem hj))
      have := restG_zero (err := fun _ x => bookE x) h2 hi
      rw [← e2]; exact this
  have h5 : unkB t l' = false := by
    unfold unkB at h3 ⊢
    rw [List.any_eq_false] at h3 ⊢
    exact fun x hx => h3 x (hs x hx)
  unfold bothE
  rw [h1, h4, h5]; rfl
theorem FitP.perm {t : List Tb} {l l' : List Bk} (hp : l'.Perm l) : FitP t l' ↔ FitP t l := by
  unfold FitP cntD
  constructor
  · intro h k q
    rw [← hp.countP_eq]; exact h k q
  · intro h k q
    rw [hp.countP_eq]; exact h k q
theorem asgX_perm {t : List Tb} {l l' : List Bk} (h : bothE t l = 0) (hp : l'.Perm l) : asgX t l' = asgX t l := by
  have ok := both_ok h
  have h' := bothE_of h (fun x hx => hp.subset hx) (by rw [hp.length_eq]; exact ok.len)
  have ok' := both_ok h'
  have e1 : asgX t l = if fitB t l = true then 0 else 23 := if_neg (by rw [h]; simp)
  have e2 : asgX t l' = if fitB t l' = true then 0 else 23 := if_neg (by rw [h']; simp)
  have : fitB t l' = fitB t l := by
    rw [Bool.eq_iff_iff, ok.fit, ok'.fit]
    exact FitP.perm hp
  rw [e1, e2, this]
end Go.Proofs.YtfegloadbajbhaaGreatDoor
/- LeagueDays: the plain law. -/
noncomputable section
namespace Go.Den.Plan
section
variable {D D' : Nat → List Int} {M M' : Nat → Nat → Bool}
theorem Valid.swap {sol : List Int} {i : Nat} {x : Int} (h : Valid D M sol) (hx : x ∈ D i) (hn : ∀ k, k ≠ i → sol[k]? = some x → M i k = false ∧ M k i = false) : Valid D M (sol.set i x) := by
  have look : ∀ (j : Nat) d, (sol.set i x)[j]? = some d → (j = i ∧ d = x) ∨ (j ≠ i ∧ sol[j]? = some d) := fun j d hj => by
    by_cases e : j = i
    · subst e
      have hl := (List.getElem?_eq_some_iff.1 hj).1
      rw [List.length_set] at hl
      rw [List.getElem?_set_self hl] at hj
      cases hj; exact .inl ⟨rfl, rfl⟩
    · rw [List.getElem?_set_ne (fun e' => e e'.symm)] at hj
      exact .inr ⟨e, hj⟩
  refine ⟨fun j d hj => ?_, fun j k d hk h1 h2 => ?_⟩
  · rcases look j d hj with ⟨rfl, rfl⟩ | ⟨_, hj⟩
    · exact hx
    · exact h.day j d hj
  · rcases look j d h1 with ⟨rfl, rfl⟩ | ⟨n1, g1⟩
    · rcases look k d h2 with ⟨rfl, _⟩ | ⟨n2, h2⟩
      · omega
      · exact (hn k n2 h2).1
    · rcases look k d h2 with ⟨rfl, rfl⟩ | ⟨n2, h2⟩
      · exact (hn j n1 g1).2
      · exact h.apart j k d hk g1 h2
theorem Valid.into {sol : List Int} (h : Valid D M sol) (hD : ∀ i, i < sol.length → ∀ d ∈ D i, d ∈ D' i) (hM : ∀ i k, i < sol.length → k < i → M' i k = M i k) : Valid D' M' sol :=
  ⟨fun i d hd => hD i (List.getElem?_eq_some_iff.1 hd).1 d (h.day i d hd), fun i k d hk h1 h2 => by rw [hM i k (List.getElem?_eq_some_iff.1 h1).1 hk]; exact h.apart i k d hk h1 h2⟩
end
end Go.Den.Plan
namespace Go.Proofs.YtfegloadbajbhaaGreatDoor
open Go Go.Den
set_option maxRecDepth 100000

section
variable {m : List (Int × Int)} {busy : List Bz} {frm to : Int} {sol : List Int} {D : Nat → List Int}
end
end Go.Proofs.YtfegloadbajbhaaGreatDoor
/- LeagueMeets: the law's own walk. -/
noncomputable section
namespace Go.Proofs.YtfegloadbajbhaaGreatDoor
open Go Go.Den
set_option maxRecDepth 100000

theorem keyInt : KeyOk Tryz.prog 3 I := by
  obtain ⟨ti, h1, h2⟩ : ∃ ti, (ctxOf Tryz.prog).ty.get 3 = some ti ∧ ti.und = .int .i64 := ⟨_, ctx_ty rfl, rfl⟩
  refine ⟨fun a => ?_, fun a => ?_, fun a b => ?_, fun a => ?_⟩
  · simp [keyOk, chkV, h1, h2, flatC, Value.cells]
  · simp [flatC, Value.cells]
  · simp only [eqV, h1, h2]
    by_cases h : a = b <;> simp [h]
  · simp [sameKey, eqFlat]
end Go.Proofs.YtfegloadbajbhaaGreatDoor
namespace Go.Den
section
variable {P : Program} {l : EL} {h : AHeap} {α : Type} {f : α → List Value} {w : Nat}
end
end Go.Den
namespace Go.Proofs.YtfegloadbajbhaaGreatDoor
open Go Go.Den
end Go.Proofs.YtfegloadbajbhaaGreatDoor
