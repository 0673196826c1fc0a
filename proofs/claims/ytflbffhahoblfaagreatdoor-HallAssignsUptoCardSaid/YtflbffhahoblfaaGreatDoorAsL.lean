/- Plain law: the assignment of a hall. -/
import Derived.Test.YtflbffhahoblfaaGreatDoorBkL
import Derived.Test.YtflbffhahoblfaaGreatDoorTcH
noncomputable section
namespace Go.Proofs.YtflbffhahoblfaaGreatDoor
open Go Go.Den
def meetB (a b : Bk) : Bool := decide (a.frm < b.to) && decide (b.frm < a.to)
theorem meetB_comm (a b : Bk) : meetB a b = meetB b a := Bool.and_comm ..
theorem meetB_iff {a b : Bk} : meetB a b = true ↔ a.frm < b.to ∧ b.frm < a.to := by
  unfold meetB; simp
def frmI (l : List Bk) (i : Nat) : Int := l[i]?.elim 0 (·.frm)
theorem frmI_at {l : List Bk} {i : Nat} (h : i < l.length) : frmI l i = l[i].frm := by simp [frmI, h]
def lexB (l : List Bk) (i k : Nat) : Bool := decide (frmI l i < frmI l k) || (decide (frmI l i = frmI l k) && decide (i ≤ k))
theorem lexB_iff {l : List Bk} {i k : Nat} : lexB l i k = true ↔ frmI l i < frmI l k ∨ (frmI l i = frmI l k ∧ i ≤ k) := by
  unfold lexB; simp
def ordL (l : List Bk) : List Nat := (List.range l.length).mergeSort (lexB l)
section
variable {l : List Bk}
theorem ordL_perm : (ordL l).Perm (List.range l.length) := List.mergeSort_perm ..
theorem ordL_len : (ordL l).length = l.length := by rw [ordL_perm.length_eq, List.length_range]
theorem ordL_srt : (ordL l).Pairwise fun i k => lexB l i k = true :=
  List.pairwise_mergeSort (fun a b c h1 h2 => by rw [lexB_iff] at h1 h2 ⊢; omega) (fun a b => by rw [Bool.or_eq_true, lexB_iff, lexB_iff]; omega) _
theorem ordL_nodup : (ordL l).Nodup := ordL_perm.nodup_iff.2 List.nodup_range
theorem mem_ordL {i : Nat} : i ∈ ordL l ↔ i < l.length := by rw [ordL_perm.mem_iff, List.mem_range]
theorem ordL_lt {n : Nat} (h : n < (ordL l).length) : (ordL l)[n] < l.length := mem_ordL.1 (List.getElem_mem h)
theorem ordL_uniq {o : List Nat} (hp : o.Perm (List.range l.length)) (hs : o.Pairwise fun i k => lexB l i k = true) : o = ordL l :=
  List.Perm.eq_of_pairwise (le := fun i k => lexB l i k = true) (fun a b _ _ h1 h2 => by rw [lexB_iff] at h1 h2; omega) hs ordL_srt (hp.trans ordL_perm.symm)
theorem ordL_out {n : Nat} (h : n < (ordL l).length) : (ordL l)[n] ∉ (ordL l).take n := fun hm => by
  have hn := ordL_nodup (l := l)
  rw [← List.take_append_drop n (ordL l), List.nodup_append] at hn
  exact hn.2.2 _ hm _ (by rw [List.drop_eq_getElem_cons h]; exact List.mem_cons_self ..) rfl
theorem ordL_next {n : Nat} (h : n < (ordL l).length) {i : Nat} (hi : i < l.length) (hd : i ∉ (ordL l).take n) (hm : ∀ k, k < l.length → k ∉ (ordL l).take n → lexB l i k = true) : i = (ordL l)[n] := by
  have h1 := hm _ (ordL_lt h) (ordL_out h)
  have h2 : i ∈ ordL l := mem_ordL.2 hi
  rw [← List.take_append_drop n (ordL l)] at h2
  rcases List.mem_append.1 h2 with h2 | h2
  · exact absurd h2 hd
  · rw [List.drop_eq_getElem_cons h] at h2
    rcases List.mem_cons.1 h2 with h2 | h2
    · exact h2
    · have hs := ordL_srt (l := l)
      rw [← List.take_append_drop n (ordL l), List.drop_eq_getElem_cons h] at hs
      have h3 := (List.pairwise_cons.1 (List.pairwise_append.1 hs).2.1).1 i h2
      rw [lexB_iff] at h1 h3
      omega
end
def freeK (t : List Tb) (l : List Bk) (a : List Int) (b : Bk) (k : Nat) : Bool := (t[k]?.elim false fun x => decide (x.kind = b.kind)) && (List.range l.length).all fun m => !(decide (a[m]? = some (k : Int)) && l[m]?.elim false fun o => meetB b o)
def freeV (t : List Tb) (l : List Bk) (a : List Int) (b : Bk) : Int := ((List.range t.length).find? (freeK t l a b)).elim (-1) fun k => (k : Int)
theorem freeK_iff {t : List Tb} {l : List Bk} {a : List Int} {b : Bk} {k : Nat} : freeK t l a b k = true ↔ (∃ h : k < t.length, t[k].kind = b.kind) ∧ ∀ m (h : m < l.length), a[m]? = some (k : Int) → meetB b l[m] = false := by
  unfold freeK
  rw [Bool.and_eq_true, List.all_eq_true]
  constructor
  · rintro ⟨h1, h2⟩
    constructor
    · by_cases h : k < t.length
      · refine ⟨h, ?_⟩
        rw [List.getElem?_eq_getElem h] at h1
        simpa using h1
      · rw [List.getElem?_eq_none (by omega)] at h1; cases h1
    · intro m hm e
      have := h2 m (List.mem_range.2 hm)
      rw [e, List.getElem?_eq_getElem hm] at this
      simpa using this
  · rintro ⟨⟨h, h1⟩, h2⟩
    refine ⟨by rw [List.getElem?_eq_getElem h]; simpa using h1, fun m hm => ?_⟩
    have hm := List.mem_range.1 hm
    rw [List.getElem?_eq_getElem hm]
    by_cases e : a[m]? = some (k : Int)
    · simp [e, h2 m hm e]
    · simp [e]
theorem freeV_spec (t : List Tb) (l : List Bk) (a : List Int) (b : Bk) : (freeV t l a b = -1 ∧ ∀ k, k < t.length → freeK t l a b k = false) ∨ ∃ k, k < t.length ∧ freeV t l a b = (k : Int) ∧ freeK t l a b k = true ∧ ∀ j, j < k → freeK t l a b j = false := by
  unfold freeV
  cases e : (List.range t.length).find? (freeK t l a b) with
  | none =>
    rw [List.find?_range_eq_none] at e
    exact .inl ⟨rfl, fun k hk => by simpa using e k hk⟩
  | some k =>
    rw [List.find?_range_eq_some] at e
    exact .inr ⟨k, List.mem_range.1 e.2.1, rfl, e.1, fun j hj => by simpa using e.2.2 j hj⟩
theorem freeV_at {t : List Tb} {l : List Bk} {a : List Int} {b : Bk} {k : Nat} (h : k < t.length) (h1 : freeK t l a b k = true) (h2 : ∀ j, j < k → freeK t l a b j = false) : freeV t l a b = (k : Int) := by
  rcases freeV_spec t l a b with ⟨_, h3⟩ | ⟨j, _, h4, h5, h6⟩
  · rw [h3 k h] at h1; cases h1
  · rcases Nat.lt_trichotomy j k with h7 | h7 | h7
    · rw [h2 j h7] at h5; cases h5
    · rw [h4, h7]
    · rw [h6 k h7] at h1; cases h1
theorem freeV_none {t : List Tb} {l : List Bk} {a : List Int} {b : Bk} (h : ∀ k, k < t.length → freeK t l a b k = false) : freeV t l a b = -1 := by
  rcases freeV_spec t l a b with ⟨h1, _⟩ | ⟨k, h1, _, h2, _⟩
  · exact h1
  · rw [h k h1] at h2; cases h2
def asgS (t : List Tb) (l : List Bk) (a : List Int) (i : Nat) : List Int := a.set i (l[i]?.elim (-1) (freeV t l a))
def asgA (t : List Tb) (l : List Bk) (n : Nat) : List Int := ((ordL l).take n).foldl (asgS t l) (List.replicate l.length (-1))
theorem asgA_succ {t : List Tb} {l : List Bk} {n : Nat} (h : n < (ordL l).length) : asgA t l (n + 1) = asgS t l (asgA t l n) (ordL l)[n] := by
  unfold asgA
  rw [take_snoc h, List.foldl_append]; rfl
theorem asgA_len {t : List Tb} {l : List Bk} : ∀ {n : Nat}, (asgA t l n).length = l.length := by
  intro n
  unfold asgA
  suffices h : ∀ (o : List Nat) (a : List Int), (o.foldl (asgS t l) a).length = a.length from by rw [h, List.length_replicate]
  intro o
  induction o with
  | nil => intro a; rfl
  | cons x o ih => intro a; rw [List.foldl_cons, ih]; simp [asgS]
theorem countP_range {α : Type} (p : α → Bool) (l : List α) : l.countP p = (List.range l.length).countP fun m => l[m]?.elim false p := by
  suffices h : ∀ i, i ≤ l.length → (l.take i).countP p = (List.range i).countP fun m => l[m]?.elim false p from by
    have := h l.length (Nat.le_refl _)
    rwa [List.take_length] at this
  intro i
  induction i with
  | zero => intro _; rfl
  | succ i ih =>
    intro h
    rw [take_snoc (by omega), List.countP_append, ih (by omega), List.range_succ, List.countP_append]
    have e : l[i]?.elim false p = p l[i] := by rw [List.getElem?_eq_getElem (by omega)]; rfl
    simp [List.countP_cons, e]
theorem idx_count {α : Type} {p : α → Bool} {l : List α} {S : List Nat} (hn : S.Nodup) (hs : ∀ m ∈ S, ∃ h : m < l.length, p l[m] = true) : S.length ≤ l.countP p := by
  rw [countP_range, List.countP_eq_length_filter]
  refine hn.length_le_of_subset fun m hm => ?_
  obtain ⟨h, hp⟩ := hs m hm
  exact List.mem_filter.2 ⟨List.mem_range.2 h, by rw [List.getElem?_eq_getElem h]; exact hp⟩
structure AsI (t : List Tb) (l : List Bk) (n : Nat) (a : List Int) : Prop where
  len : a.length = l.length
  un : ∀ m, m < l.length → m ∉ (ordL l).take n → a[m]? = some (-1)
  asg : ∀ m (h : m < l.length), m ∈ (ordL l).take n → ∃ k : Nat, a[m]? = some (k : Int) ∧ ∃ hk : k < t.length, t[k].kind = l[m].kind ∧ cntK (t.take (k + 1)) l[m].kind ≤ cntD l l[m].kind l[m].frm
  sep : ∀ m m' (h : m < l.length) (h' : m' < l.length), m ≠ m' → m ∈ (ordL l).take n → m' ∈ (ordL l).take n → a[m]? = a[m']? → meetB l[m] l[m'] = false
section
variable {t : List Tb} {l : List Bk} {n : Nat} {a : List Int}
theorem AsI.zero : AsI t l 0 (asgA t l 0) := ⟨asgA_len, fun m hm _ => by simp [asgA, hm], fun m _ h => (by simp at h), fun m _ _ _ _ h => (by simp at h)⟩
theorem ordL_le (hn : n < (ordL l).length) {m : Nat} (h : m < l.length) (hm : m ∈ (ordL l).take n) : l[m].frm ≤ (l[(ordL l)[n]]'(ordL_lt hn)).frm := by
  have hs := ordL_srt (l := l)
  rw [← List.take_append_drop n (ordL l), List.drop_eq_getElem_cons hn] at hs
  have h3 := (List.pairwise_append.1 hs).2.2 m hm (ordL l)[n] (List.mem_cons_self ..)
  rw [lexB_iff, frmI_at h, frmI_at (ordL_lt hn)] at h3
  omega
theorem AsI.occ (hA : AsI t l n a) (hn : n < (ordL l).length) (hl : ∀ x ∈ l, BkOk x) {N : Nat} (hN : N ≤ t.length) (hf : ∀ j, j < N → freeK t l a (l[(ordL l)[n]]'(ordL_lt hn)) j = false) :
    cntK (t.take N) (l[(ordL l)[n]]'(ordL_lt hn)).kind + 1 ≤ cntD l (l[(ordL l)[n]]'(ordL_lt hn)).kind (l[(ordL l)[n]]'(ordL_lt hn)).frm := by
  obtain ⟨b, hb⟩ : ∃ b, b = l[(ordL l)[n]]'(ordL_lt hn) := ⟨_, rfl⟩
  rw [← hb] at hf ⊢
  have key : ∀ N, N ≤ t.length → (∀ j, j < N → freeK t l a b j = false) → ∃ S : List Nat, S.Nodup ∧ S.length = cntK (t.take N) b.kind ∧ ∀ m ∈ S, ∃ h : m < l.length, m ∈ (ordL l).take n ∧ isAt b.kind b.frm l[m] = true ∧ ∃ j : Nat, j < N ∧ a[m]? = some (j : Int) := by
    intro N
    induction N with
    | zero => intro _ _; exact ⟨[], .nil, rfl, by simp⟩
    | succ N ih =>
      intro h1 h2
      obtain ⟨S, s1, s2, s3⟩ := ih (by omega) fun j hj => h2 j (by omega)
      rw [cntK_snoc (by omega)]
      by_cases e : t[N].kind = b.kind
      · rw [if_pos e]
        have h4 := h2 N (by omega)
        have h5 : ¬ freeK t l a b N = true := by rw [h4]; simp
        rw [freeK_iff] at h5
        have h6 : ∃ m, ∃ h : m < l.length, a[m]? = some (N : Int) ∧ meetB b l[m] = true := by
          apply Classical.byContradiction
          intro hno
          refine h5 ⟨⟨by omega, e⟩, fun m hm e2 => ?_⟩
          cases e3 : meetB b l[m]
          · rfl
          · exact absurd ⟨m, hm, e2, e3⟩ hno
        obtain ⟨m, hm, e2, e3⟩ := h6
        have hin : m ∈ (ordL l).take n := by
          apply Classical.byContradiction
          intro hno
          rw [hA.un m hm hno] at e2
          have := Option.some.inj e2
          omega
        obtain ⟨k, k1, k2, k3, _⟩ := hA.asg m hm hin
        have hkN : k = N := by
          rw [k1] at e2
          have := Option.some.inj e2
          omega
        subst hkN
        have h7 := ordL_le hn hm hin
        rw [← hb] at h7
        rw [meetB_iff] at e3
        refine ⟨m :: S, List.nodup_cons.2 ⟨fun hms => ?_, s1⟩, by simp [s2], fun x hx => ?_⟩
        · obtain ⟨_, _, _, j, hj, hj2⟩ := s3 m hms
          rw [e2] at hj2
          have := Option.some.inj hj2
          omega
        · rcases List.mem_cons.1 hx with rfl | hx
          · exact ⟨hm, hin, isAt_iff.2 ⟨k3.symm.trans e, h7, e3.1⟩, k, by omega, e2⟩
          · obtain ⟨h, i1, i2, j, hj, hj2⟩ := s3 x hx
            exact ⟨h, i1, i2, j, by omega, hj2⟩
      · rw [if_neg e]
        refine ⟨S, s1, s2, fun x hx => ?_⟩
        obtain ⟨h, i1, i2, j, hj, hj2⟩ := s3 x hx
        exact ⟨h, i1, i2, j, by omega, hj2⟩
  obtain ⟨S, s1, s2, s3⟩ := key N hN hf
  have hbo : BkOk b := hl b (by rw [hb]; exact List.getElem_mem _)
  have := idx_count (p := isAt b.kind b.frm) (l := l) (S := (ordL l)[n] :: S) (List.nodup_cons.2 ⟨fun hm => by
    obtain ⟨_, h2, _⟩ := s3 _ hm
    exact ordL_out hn h2, s1⟩) fun m hm => by
      rcases List.mem_cons.1 hm with rfl | hm
      · exact ⟨ordL_lt hn, by rw [← hb]; exact isAt_iff.2 ⟨rfl, Int.le_refl _, hbo.lt⟩⟩
      · obtain ⟨h, _, h3, _⟩ := s3 m hm
        exact ⟨h, h3⟩
  rw [List.length_cons, s2] at this
  exact this
theorem AsI.fail (hA : AsI t l n a) (hn : n < (ordL l).length) (hl : ∀ x ∈ l, BkOk x) (hf : ∀ k, k < t.length → freeK t l a (l[(ordL l)[n]]'(ordL_lt hn)) k = false) : ¬ FitP t l := fun h => by
  have h1 := hA.occ hn hl (Nat.le_refl _) hf
  have h2 := h (l[(ordL l)[n]]'(ordL_lt hn)).kind (l[(ordL l)[n]]'(ordL_lt hn)).frm
  rw [List.take_length] at h1
  omega
theorem AsI.step (hA : AsI t l n a) (hn : n < (ordL l).length) (hl : ∀ x ∈ l, BkOk x) {k : Nat} (hk : k < t.length) (h1 : freeK t l a (l[(ordL l)[n]]'(ordL_lt hn)) k = true) (h2 : ∀ j, j < k → freeK t l a (l[(ordL l)[n]]'(ordL_lt hn)) j = false) :
    AsI t l (n + 1) (a.set (ordL l)[n] (k : Int)) := by
  have hoc := hA.occ hn hl (Nat.le_of_lt hk) h2
  obtain ⟨⟨_, e1⟩, h3⟩ := freeK_iff.1 h1
  have hlt := ordL_lt hn
  have hout := ordL_out hn
  have hlow : cntK (t.take (k + 1)) (l[(ordL l)[n]]'hlt).kind ≤ cntD l (l[(ordL l)[n]]'hlt).kind (l[(ordL l)[n]]'hlt).frm := by
    rw [cntK_snoc hk, if_pos e1]; exact hoc
  obtain ⟨i, hi⟩ : ∃ i, i = (ordL l)[n] := ⟨_, rfl⟩
  simp only [← hi] at h1 h2 h3 e1 hlt hout hlow ⊢
  have mem : ∀ m, m ∈ (ordL l).take (n + 1) ↔ m ∈ (ordL l).take n ∨ m = i := fun m => by rw [take_snoc hn, List.mem_append, List.mem_singleton, ← hi]
  have hai : i < a.length := by rw [hA.len]; exact hlt
  have gi : (a.set i (k : Int))[i]? = some (k : Int) := by simp [hai]
  have gn : ∀ m, m ≠ i → (a.set i (k : Int))[m]? = a[m]? := fun m hm => List.getElem?_set_ne (fun e => hm e.symm)
  refine ⟨by rw [List.length_set]; exact hA.len, fun m hm hmn => ?_, fun m hm hmn => ?_, fun m m' hm hm' hne hmn hmn' e => ?_⟩
  · rw [mem] at hmn
    rw [gn m fun e => hmn (.inr e)]
    exact hA.un m hm fun e => hmn (.inl e)
  · rcases (mem m).1 hmn with h | rfl
    · rw [gn m fun e => hout (e ▸ h)]
      exact hA.asg m hm h
    · exact ⟨k, gi, hk, e1, hlow⟩
  · rcases (mem m).1 hmn with h | rfl
    · rcases (mem m').1 hmn' with h' | rfl
      · rw [gn m fun e => hout (e ▸ h), gn m' fun e => hout (e ▸ h')] at e
        exact hA.sep m m' hm hm' hne h h' e
      · rw [gn m hne, gi] at e
        rw [meetB_comm]
        exact h3 m hm e
    · rcases (mem m').1 hmn' with h' | h'
      · rw [gn m' fun e => hne e.symm, gi] at e
        exact h3 m' hm' e.symm
      · exact absurd h'.symm hne
structure AsgP (t : List Tb) (l : List Bk) (a : List Int) : Prop where
  len : a.length = l.length
  kd : ∀ m (h : m < l.length), ∃ k : Nat, a[m]? = some (k : Int) ∧ ∃ hk : k < t.length, t[k].kind = l[m].kind
  sep : ∀ m m' (h : m < l.length) (h' : m' < l.length), m ≠ m' → a[m]? = a[m']? → meetB l[m] l[m'] = false
theorem AsI.done (hA : AsI t l l.length a) : AsgP t l a := by
  have hm : ∀ m, m < l.length → m ∈ (ordL l).take l.length := fun m h => by
    rw [List.take_of_length_le (by rw [ordL_len]; exact Nat.le_refl _)]; exact mem_ordL.2 h
  refine ⟨hA.len, fun m h => ?_, fun m m' h h' hne e => hA.sep m m' h h' hne (hm m h) (hm m' h') e⟩
  obtain ⟨k, k1, k2, k3, _⟩ := hA.asg m h (hm m h)
  exact ⟨k, k1, k2, k3⟩
theorem AsgP.fit (h : AsgP t l a) : FitP t l := fun k q => by
  unfold cntD
  obtain ⟨M, hM⟩ : ∃ M, M = (List.range l.length).filter fun m => l[m]?.elim false (isAt k q) := ⟨_, rfl⟩
  have e1 : l.countP (isAt k q) = M.length := by rw [countP_range, List.countP_eq_length_filter, hM]
  have hm : ∀ m ∈ M, ∃ h : m < l.length, isAt k q l[m] = true := fun m hm => by
    rw [hM] at hm
    obtain ⟨h1, h2⟩ := List.mem_filter.1 hm
    have h1 := List.mem_range.1 h1
    rw [List.getElem?_eq_getElem h1] at h2
    exact ⟨h1, h2⟩
  have hnd : M.Nodup := by rw [hM]; exact List.Pairwise.filter _ List.nodup_range
  have hlen : (M.map fun m => (a[m]?.getD 0).toNat).length = M.length := List.length_map _
  rw [e1, ← hlen]
  unfold cntK
  refine idx_count (p := fun x : Tb => decide (x.kind = k)) (List.pairwise_map.2 (hnd.imp_of_mem fun {m m'} h1 h2 hne e => ?_)) fun j hj => ?_
  · obtain ⟨i1, p1⟩ := hm m h1
    obtain ⟨i2, p2⟩ := hm m' h2
    obtain ⟨j1, g1, _⟩ := h.kd m i1
    obtain ⟨j2, g2, _⟩ := h.kd m' i2
    rw [g1, g2] at e
    simp only [Option.getD_some, Int.toNat_natCast] at e
    have := h.sep m m' i1 i2 hne (by rw [g1, g2, e])
    obtain ⟨_, p3, p4⟩ := isAt_iff.1 p1
    obtain ⟨_, p5, p6⟩ := isAt_iff.1 p2
    have hx : meetB l[m] l[m'] = true := meetB_iff.2 ⟨by omega, by omega⟩
    rw [hx] at this; cases this
  · obtain ⟨m, h1, rfl⟩ := List.mem_map.1 hj
    obtain ⟨i1, p1⟩ := hm m h1
    obtain ⟨j1, g1, g2, g3⟩ := h.kd m i1
    refine ⟨by rw [g1]; simpa using g2, ?_⟩
    obtain ⟨p3, _⟩ := isAt_iff.1 p1
    simp only [g1, Option.getD_some, Int.toNat_natCast]
    exact decide_eq_true (g3.trans p3)
end
section
variable {t : List Tb} {l : List Bk}
theorem asg_inv (hl : ∀ x ∈ l, BkOk x) (hf : FitP t l) : ∀ n, n ≤ l.length → AsI t l n (asgA t l n)
  | 0, _ => .zero
  | n + 1, h => by
    have ih := asg_inv hl hf n (by omega)
    have hn : n < (ordL l).length := by rw [ordL_len]; omega
    rw [asgA_succ hn]
    rcases freeV_spec t l (asgA t l n) (l[(ordL l)[n]]'(ordL_lt hn)) with ⟨_, h1⟩ | ⟨k, h1, h2, h3, h4⟩
    · exact absurd hf (ih.fail hn hl h1)
    · have e : asgS t l (asgA t l n) (ordL l)[n] = (asgA t l n).set (ordL l)[n] (k : Int) := by
        unfold asgS
        rw [List.getElem?_eq_getElem (ordL_lt hn)]
        show List.set _ _ (freeV t l (asgA t l n) _) = _
        rw [h2]
      rw [e]
      exact ih.step hn hl h1 h3 h4
def asgV (t : List Tb) (l : List Bk) : List Int := asgA t l l.length
end
end Go.Proofs.YtflbffhahoblfaaGreatDoor
