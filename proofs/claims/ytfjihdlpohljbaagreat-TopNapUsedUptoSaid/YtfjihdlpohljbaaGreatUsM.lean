/- Plain law: the first and the last quarters of tables, and the uses of kinds (TopNapUsed). -/
import Derived.Test.YtfjihdlpohljbaaGreatUsL
noncomputable section
namespace Go.Proofs.YtfjihdlpohljbaaGreat
open Go Go.Den
set_option maxRecDepth 100000
/-! ### the first and the last quarter -/
def fstS (f : Int) (x : Bk) : Int := if f < 0 ∨ x.frm < f then x.frm else f
def fstB (l : List Bk) : Int := l.foldl fstS (-1)
def lstB (l : List Bk) : Int := l.foldl (fun m x => max m (x.to - 1)) (-1)
theorem fstB_snoc {l : List Bk} {x : Bk} : fstB (l ++ [x]) = fstS (fstB l) x := by simp [fstB]
theorem lstB_snoc {l : List Bk} {x : Bk} : lstB (l ++ [x]) = max (lstB l) (x.to - 1) := by simp [lstB]
theorem fst_takes {l : List Bk} (h : ∀ x ∈ l, 0 ≤ x.frm) : ∀ i, i ≤ l.length → (i = 0 ∧ fstB (l.take i) = -1) ∨ ((∃ x ∈ l.take i, fstB (l.take i) = x.frm) ∧ ∀ y ∈ l.take i, fstB (l.take i) ≤ y.frm)
  | 0, _ => .inl ⟨rfl, by simp [fstB]⟩
  | i + 1, hi => by
    have h1 : i < l.length := by omega
    have h0 := h _ (List.getElem_mem h1)
    right
    rw [take_snoc h1, fstB_snoc]
    unfold fstS
    rcases fst_takes h i (by omega) with ⟨rfl, e⟩ | ⟨⟨x, hx, e⟩, hy⟩
    · rw [e, if_pos (.inl (by omega))]
      simp
    · by_cases c : fstB (l.take i) < 0 ∨ l[i].frm < fstB (l.take i)
      · rw [if_pos c]
        refine ⟨⟨l[i], List.mem_append_right _ (List.mem_singleton.2 rfl), rfl⟩, fun y hy2 => ?_⟩
        rcases List.mem_append.1 hy2 with hy2 | hy2
        · have := hy y hy2
          have := h x (List.mem_of_mem_take hx)
          omega
        · rw [List.mem_singleton.1 hy2]; exact Int.le_refl _
      · rw [if_neg c]
        refine ⟨⟨x, List.mem_append_left _ hx, e⟩, fun y hy2 => ?_⟩
        rcases List.mem_append.1 hy2 with hy2 | hy2
        · exact hy y hy2
        · rw [List.mem_singleton.1 hy2]; omega
theorem fst_all {l : List Bk} (h : ∀ x ∈ l, 0 ≤ x.frm) (hne : l ≠ []) : (∃ x ∈ l, fstB l = x.frm) ∧ ∀ y ∈ l, fstB l ≤ y.frm := by
  have := fst_takes h l.length (Nat.le_refl _)
  rw [List.take_length] at this
  rcases this with ⟨e, _⟩ | h
  · exact absurd (List.length_eq_zero_iff.1 e) hne
  · exact h
theorem lst_takes {l : List Bk} (h : ∀ x ∈ l, 1 ≤ x.to) : ∀ i, i ≤ l.length → (i = 0 ∧ lstB (l.take i) = -1) ∨ ((∃ x ∈ l.take i, lstB (l.take i) = x.to - 1) ∧ ∀ y ∈ l.take i, y.to - 1 ≤ lstB (l.take i))
  | 0, _ => .inl ⟨rfl, by simp [lstB]⟩
  | i + 1, hi => by
    have h1 : i < l.length := by omega
    have h0 := h _ (List.getElem_mem h1)
    right
    rw [take_snoc h1, lstB_snoc]
    rcases lst_takes h i (by omega) with ⟨rfl, e⟩ | ⟨⟨x, hx, e⟩, hy⟩
    · rw [e, Int.max_eq_right (by omega)]
      simp
    · rcases Int.le_total (lstB (l.take i)) (l[i].to - 1) with c | c
      · rw [Int.max_eq_right c]
        refine ⟨⟨l[i], List.mem_append_right _ (List.mem_singleton.2 rfl), rfl⟩, fun y hy2 => ?_⟩
        rcases List.mem_append.1 hy2 with hy2 | hy2
        · have := hy y hy2; omega
        · rw [List.mem_singleton.1 hy2]; exact Int.le_refl _
      · rw [Int.max_eq_left c]
        refine ⟨⟨x, List.mem_append_left _ hx, e⟩, fun y hy2 => ?_⟩
        rcases List.mem_append.1 hy2 with hy2 | hy2
        · exact hy y hy2
        · rw [List.mem_singleton.1 hy2]; exact c
theorem lst_all {l : List Bk} (h : ∀ x ∈ l, 1 ≤ x.to) (hne : l ≠ []) : (∃ x ∈ l, lstB l = x.to - 1) ∧ ∀ y ∈ l, y.to - 1 ≤ lstB l := by
  have := lst_takes h l.length (Nat.le_refl _)
  rw [List.take_length] at this
  rcases this with ⟨e, _⟩ | h
  · exact absurd (List.length_eq_zero_iff.1 e) hne
  · exact h
theorem fstB_bd {l : List Bk} (h : ∀ x ∈ l, 0 ≤ x.frm ∧ x.frm ≤ 99999) : -1 ≤ fstB l ∧ fstB l ≤ 99999 := by
  by_cases e : l = []
  · subst e; simp [fstB]
  · obtain ⟨⟨x, hx, e⟩, _⟩ := fst_all (fun x hx => (h x hx).1) e
    have := h x hx
    omega
theorem lstB_bd {l : List Bk} (h : ∀ x ∈ l, 1 ≤ x.to ∧ x.to ≤ 99999) : -1 ≤ lstB l ∧ lstB l ≤ 99999 := by
  by_cases e : l = []
  · subst e; simp [lstB]
  · obtain ⟨⟨x, hx, e⟩, _⟩ := lst_all (fun x hx => (h x hx).1) e
    have := h x hx
    omega
section
variable {t : List Tb} {l : List Bk} {A : List Int}
theorem own_sep (hP : AsgP t l A) (n : Nat) : (ownB l A n l.length).Pairwise fun a b => meetB b a = false :=
  ownB_sep (fun i k h h2 e1 e2 => hP.sep i k h (by omega) (by omega) (by rw [e1, e2])) _ (Nat.le_refl _)
theorem perm_sumB {l m : List Bk} (h : l.Perm m) : sumB l = sumB m := by
  unfold sumB
  induction h with
  | nil => rfl
  | cons x _ ih => simp only [List.map_cons, List.sum_cons, ih]
  | swap x y l => simp only [List.map_cons, List.sum_cons]; omega
  | trans _ _ h1 h2 => exact h1.trans h2
theorem sumB_pos {l : List Bk} (h : ∀ x ∈ l, x.frm < x.to) (hne : l ≠ []) : 0 < sumB l := by
  cases l with
  | nil => exact absurd rfl hne
  | cons x l =>
    have h0 := h x (by simp)
    have e : sumB (x :: l) = lenB x + sumB l := by simp [sumB]
    have h2 : ∀ m : List Bk, (∀ z ∈ m, z.frm < z.to) → 0 ≤ sumB m := fun m hm => by
      induction m with
      | nil => simp [sumB]
      | cons z m ih =>
        have h1 := ih fun u hu => hm u (List.mem_cons_of_mem _ hu)
        have h2 := hm z (by simp)
        have e : sumB (z :: m) = lenB z + sumB m := by simp [sumB]
        rw [e]; unfold lenB; omega
    have := h2 l fun u hu => h u (List.mem_cons_of_mem _ hu)
    rw [e]; unfold lenB; omega
/-- what the law compares, for one table -/
structure UsT (l : List Bk) (A : List Int) (n : Nat) : Prop where
  fst : wornK l A 1 n = fstB (ownB l A n l.length)
  lst : 1 ≤ sumB (ownB l A n l.length) → wornK l A (sumB (ownB l A n l.length)) n = lstB (ownB l A n l.length)
  pos : decide (sumB (ownB l A n l.length) > 0) = decide (fstB (ownB l A n l.length) ≥ 0)
theorem us_tab (hok : ∀ x ∈ l, BkOk x) (hP : AsgP t l A) (n : Nat) : UsT l A n := by
  have hsep := own_sep hP n
  have hin : ∀ x ∈ ownB l A n l.length, BkOk x := fun x hx => hok x (ownB_mem _ x hx)
  unfold wornK at *
  obtain ⟨own, ho⟩ : ∃ own, own = ownB l A n l.length := ⟨_, rfl⟩
  have hlt : ∀ x ∈ own, x.frm < x.to := fun x hx => (hin x (ho ▸ hx)).lt
  have hf0 : ∀ x ∈ own, 0 ≤ x.frm := fun x hx => (hin x (ho ▸ hx)).f0
  have ht1 : ∀ x ∈ own, 1 ≤ x.to := fun x hx => by have := hf0 x hx; have := hlt x hx; omega
  rw [← ho] at hsep
  have hp := isort_perm (lt := ltB) own
  by_cases e : own = []
  · have hs : isort ltB own = [] := by rw [e]; rfl
    refine ⟨?_, fun h => ?_, ?_⟩
    · unfold wornK
      rw [← ho, hs, e]; rfl
    · rw [← ho, e] at h; exact absurd h (by simp [sumB])
    · rw [← ho, e]; simp [sumB, fstB]
  · have hseq := sort_seq hlt hsep
    have hS : ∀ y ∈ isort ltB own, y.frm < y.to := fun y hy => hlt y (hp.mem_iff.1 hy)
    obtain ⟨S, hSe⟩ : ∃ S, S = isort ltB own := ⟨_, rfl⟩
    rw [← hSe] at hp hseq hS
    have hSn : S ≠ [] := fun e2 => e (by rw [e2] at hp; exact hp.symm.eq_nil)
    obtain ⟨⟨x, hx, e1⟩, e2⟩ := fst_all hf0 e
    obtain ⟨⟨y, hy, e3⟩, e4⟩ := lst_all ht1 e
    refine ⟨?_, fun _ => ?_, ?_⟩
    · unfold wornK
      rw [← ho, ← hSe]
      cases S with
      | nil => exact absurd rfl hSn
      | cons z r =>
        rw [worn_one (hS z (by simp)), e1]
        have h1 := seq_first hseq hS x (hp.mem_iff.2 hx)
        have h2 := e2 z (hp.mem_iff.1 (by simp))
        omega
    · unfold wornK
      rw [← ho, ← hSe]
      have es : sumB own = sumB S := by
        exact (perm_sumB hp).symm
      rw [es, worn_all hSn hS, e3]
      have h1 := seq_last hSn hseq hS y (hp.mem_iff.2 hy)
      have h2 := e4 (S.getLast hSn) (hp.mem_iff.1 (List.getLast_mem hSn))
      omega
    · rw [← ho]
      have h1 := sumB_pos hlt e
      have h2 := hf0 x hx
      rw [decide_eq_true (by omega), decide_eq_true (by omega)]
end
/-! ### the uses of a kind -/
def tabK (t : List Tb) (u : List Int) (k : ByteArray) : Nat → Int
  | 0 => 0
  | n + 1 => tabK t u k n + (t[n]?.elim 0 fun z => if z.kind = k then u[n]?.getD 0 else 0)
def bookK (l : List Bk) (k : ByteArray) : Nat → Int
  | 0 => 0
  | n + 1 => bookK l k n + (l[n]?.elim 0 fun x => if x.kind = k then lenB x else 0)
theorem tabK_succ {t : List Tb} {u : List Int} {k : ByteArray} {n : Nat} (h : n < t.length) (hu : n < u.length) : tabK t u k (n + 1) = tabK t u k n + if t[n].kind = k then u[n] else 0 := by
  simp only [tabK, List.getElem?_eq_getElem h, List.getElem?_eq_getElem hu, Option.elim_some, Option.getD_some]
theorem bookK_succ {l : List Bk} {k : ByteArray} {n : Nat} (h : n < l.length) : bookK l k (n + 1) = bookK l k n + if l[n].kind = k then lenB l[n] else 0 := by
  simp only [bookK, List.getElem?_eq_getElem h, Option.elim_some]
theorem tabK_zero {t : List Tb} {k : ByteArray} {m : Nat} : ∀ n, tabK t (List.replicate m 0) k n = 0
  | 0 => rfl
  | n + 1 => by
    simp only [tabK, tabK_zero n]
    cases t[n]? with
    | none => rfl
    | some z =>
      have : (List.replicate m (0 : Int))[n]?.getD 0 = 0 := by
        rw [List.getElem?_replicate]; split <;> rfl
      simp [this]
theorem tabK_set {t : List Tb} {u : List Int} {k : ByteArray} {m : Nat} {d : Int} (hm : m < u.length) (ht : m < t.length) : ∀ n, tabK t (u.set m (u[m]?.getD 0 + d)) k n = tabK t u k n + if m < n ∧ t[m].kind = k then d else 0
  | 0 => by simp [tabK]
  | n + 1 => by
    have ih := tabK_set (k := k) (d := d) hm ht n
    simp only [tabK]
    rw [ih]
    by_cases e : m = n
    · subst e
      rw [List.getElem?_eq_getElem ht, List.getElem?_set_self hm]
      simp only [Option.elim_some, Option.getD_some]
      by_cases e2 : t[m].kind = k
      · simp only [if_pos e2, e2, and_true, Nat.lt_irrefl, Nat.lt_succ_self, if_true, if_false]; omega
      · simp only [if_neg e2, e2, and_false, if_false]
    · rw [List.getElem?_set_ne e]
      by_cases e2 : t[m].kind = k
      · by_cases e3 : m < n
        · rw [if_pos ⟨e3, e2⟩, if_pos ⟨by omega, e2⟩]; omega
        · rw [if_neg (fun h => e3 h.1), if_neg (fun h => by have := h.1; omega)]; omega
      · rw [if_neg (fun h => e2 h.2), if_neg (fun h => e2 h.2)]; omega
theorem use_kind {t : List Tb} {l : List Bk} {A : List Int} (hP : AsgP t l A) (k : ByteArray) : ∀ j, j ≤ l.length → tabK t (useI t.length l A j) k t.length = bookK l k j
  | 0, _ => by simp only [useI, bookK]; exact tabK_zero _
  | j + 1, hj => by
    have h1 : j < l.length := by omega
    have h2 : j < A.length := by rw [hP.len]; exact h1
    have ih := use_kind hP k j (by omega)
    obtain ⟨m, e1, hm, e2⟩ := hP.kd j h1
    rw [List.getElem?_eq_getElem h2] at e1
    have e1 := Option.some.inj e1
    rw [useI_succ h1 h2, bookK_succ h1, ← ih]
    unfold useS
    rw [e1]
    have e3 : ((m : Nat) : Int).toNat = m := Int.toNat_natCast m
    rw [e3, tabK_set (by rw [useI_len]; exact hm) hm, e2]
    by_cases e4 : l[j].kind = k
    · rw [if_pos ⟨hm, e4⟩, if_pos e4]
    · rw [if_neg (fun h => e4 h.2), if_neg e4]
theorem tabK_bd {t : List Tb} {u : List Int} {k : ByteArray} {B : Int} (hB : 0 ≤ B) (hu : ∀ y ∈ u, 0 ≤ y ∧ y ≤ B) : ∀ n, 0 ≤ tabK t u k n ∧ tabK t u k n ≤ B * (n : Int)
  | 0 => by simp [tabK]
  | n + 1 => by
    have ih := tabK_bd (t := t) (k := k) hB hu n
    simp only [tabK]
    have h : 0 ≤ (t[n]?.elim 0 fun z => if z.kind = k then u[n]?.getD 0 else 0) ∧ (t[n]?.elim 0 fun z => if z.kind = k then u[n]?.getD 0 else 0) ≤ B := by
      cases t[n]? with
      | none => exact ⟨Int.le_refl _, hB⟩
      | some z =>
        simp only [Option.elim_some]
        split
        · cases e : u[n]? with
          | none => exact ⟨Int.le_refl _, hB⟩
          | some y => exact hu y (List.mem_of_getElem? e)
        · exact ⟨Int.le_refl _, hB⟩
    have e : B * ((n + 1 : Nat) : Int) = B * (n : Int) + B := by rw [Int.natCast_add, Int.mul_add]; simp
    omega
theorem bookK_bd {l : List Bk} {k : ByteArray} (h : ∀ x ∈ l, 0 ≤ lenB x ∧ lenB x ≤ 99999) : ∀ n, 0 ≤ bookK l k n ∧ bookK l k n ≤ 99999 * (n : Int)
  | 0 => by simp [bookK]
  | n + 1 => by
    have ih := bookK_bd (k := k) h n
    simp only [bookK]
    cases e : l[n]? with
    | none => simp only [Option.elim_none]; omega
    | some x =>
      have := h x (List.mem_of_getElem? e)
      simp only [Option.elim_some]
      split <;> omega
/-! ### a map from texts to sums -/
theorem getK_memS {ks : List (ByteArray × Int)} (hnd : (ks.map (·.1)).Nodup) {p : ByteArray × Int} (h : p ∈ ks) : getK ks p.1 = some p.2 := by
  induction ks with
  | nil => simp at h
  | cons q r ih =>
    rw [List.map_cons, List.nodup_cons] at hnd
    unfold getK
    rw [List.find?_cons]
    by_cases e : q.1 = p.1
    · simp only [e, decide_true]
      rcases List.mem_cons.1 h with rfl | h
      · rfl
      · exact absurd (List.mem_map.2 ⟨p, h, e.symm ▸ rfl⟩) (e ▸ hnd.1)
    · simp only [e, decide_false]
      rcases List.mem_cons.1 h with rfl | h
      · exact absurd rfl e
      · exact ih hnd.2 h
end Go.Proofs.YtfjihdlpohljbaaGreat
