/- Plain law: bookings without an error. -/
import Derived.Test.YtfjihdlpohljbaaGreatDeM
import Derived.Test.YtfjihdlpohljbaaGreatShB
import Derived.Test.YtfjihdlpohljbaaGreatSxM
noncomputable section
namespace Go.Proofs.YtfjihdlpohljbaaGreat
open Go Go.Den

structure BkOk (x : Bk) : Prop where
  nm : x.kind ≠ strB []
  f0 : 0 ≤ x.frm
  f1 : x.frm ≤ 99999
  t0 : 0 ≤ x.to
  t1 : x.to ≤ 99999
  lt : x.frm < x.to
theorem nameB_nil : nameB (strB []) = false := by decide +kernel
theorem bookE_ok {x : Bk} (h : bookE x = 0) : BkOk x := by
  unfold bookE at h
  have ha := firstL_allZ h
  have h1 : nameE [x.name, x.kind] = 0 := ha _ (by simp)
  have h2 := whenL_z (ha (whenL (outL x.frm 0 99999) 3) (by simp)) (by decide)
  have h3 := whenL_z (ha (whenL (outL x.to 0 99999) 3) (by simp)) (by decide)
  have h4 := whenL_z (ha (whenL (decide (x.to ≤ x.frm)) 11) (by simp)) (by decide)
  have h1 := whenL_z h1 (by decide)
  simp only [outL, decide_eq_false_iff_not] at h2 h3 h4
  refine ⟨fun e => ?_, by omega, by omega, by omega, by omega, by omega⟩
  rw [e, List.any_cons, List.any_cons, nameB_nil] at h1
  simp at h1
theorem books_ok {l : List Bk} (h : booksE l = 0) : l.length ≤ 256 ∧ ∀ x ∈ l, BkOk x := by
  unfold booksE at h
  by_cases hl : l.length > 256
  · rw [if_pos hl] at h; exact absurd h (by decide)
  · rw [if_neg hl] at h
    refine ⟨by omega, fun x hx => ?_⟩
    obtain ⟨i, hi, rfl⟩ := List.getElem_of_mem hx
    exact bookE_ok (restG_zero (err := fun _ x => bookE x) h hi)
structure BothOk (t : List Tb) (l : List Bk) : Prop where
  unk : unkB t l = false
  ok : ∀ x ∈ l, BkOk x
  len : l.length ≤ 256
  tlen : t.length ≤ 64
theorem both_ok {t : List Tb} {l : List Bk} (h : bothE t l = 0) : BothOk t l := by
  unfold bothE at h
  have ha := firstL_allZ h
  have h1 : tabsE t = 0 := ha _ (by simp)
  have h2 : booksE l = 0 := ha _ (by simp)
  have h3 := whenL_z (ha (whenL (unkB t l) 10) (by simp)) (by decide)
  obtain ⟨h4, h5⟩ := books_ok h2
  refine ⟨h3, h5, h4, ?_⟩
  unfold tabsE at h1
  by_cases hl : t.length > 64
  · rw [if_pos hl] at h1; exact absurd h1 (by decide)
  · omega
section
variable {t : List Tb} {l : List Bk}
theorem BothOk.pos (h : BothOk t l) {x : Bk} (hx : x ∈ l) : 0 < cntK t x.kind := by
  have := h.unk
  unfold unkB at this
  rw [List.any_eq_false] at this
  have := this x hx
  simp only [beq_iff_eq] at this
  omega
theorem BothOk.grow (h : BothOk t l) {b : Bk} (hb : BkOk b) (hk : 0 < cntK t b.kind) (hl : l.length < 256) : BothOk t (l ++ [b]) := by
  refine ⟨?_, fun x hx => ?_, by simp; omega, h.tlen⟩
  · have := h.unk
    unfold unkB at this ⊢
    rw [List.any_append, this, Bool.false_or, List.any_cons, List.any_nil, Bool.or_false]
    simp only [beq_eq_false_iff_ne, ne_eq]
    omega
  · rcases List.mem_append.1 hx with hx | hx
    · exact h.ok x hx
    · rw [List.mem_singleton.1 hx]; exact hb
theorem BothOk.ov (h : BothOk t l) : ovV t l = ((roA t l l.length).1, (roA t l l.length).2.1) ∧ fitB t l = !(roA t l l.length).2.2 := ov_eq h.unk fun x hx => (h.ok x hx).nm
/-- no kind has too many bookings at any quarter -/
def FitP (t : List Tb) (l : List Bk) : Prop := ∀ k q, cntD l k q ≤ cntK t k
theorem fit_beg : (∀ x ∈ l, ¬ badB t l x) → FitP t l := fun h k q => by
  by_cases h0 : cntD l k q = 0
  · omega
  obtain ⟨f, hf, _, h2⟩ := depth_key (l := l) (k := k) (q := q) (by omega)
  obtain ⟨x, hx, e1, e2⟩ := mem_froms.1 hf
  have := h x hx
  unfold badB at this
  rw [e1, e2] at this
  omega
theorem BothOk.fit (h : BothOk t l) : fitB t l = true ↔ FitP t l := by
  have hr := roA_inv t l l.length (Nat.le_refl _)
  rw [h.ov.2]
  constructor
  · intro e
    have e : (roA t l l.length).2.2 = false := by simpa using e
    have := (hr.none e).2
    rw [List.take_length] at this
    exact fit_beg this
  · intro hf
    cases e : (roA t l l.length).2.2
    · rfl
    · obtain ⟨⟨x, x1, x2, _⟩, _⟩ := hr.some e
      have := hf x.kind x.frm
      unfold badB at x2
      omega
end
end Go.Proofs.YtfjihdlpohljbaaGreat
/- Plain law: the balances of accounts. -/
noncomputable section
namespace Go.Proofs.YtfjihdlpohljbaaGreat
open Go Go.Den

/-- the balance of an account -/
def balP (a : ByteArray) (p : Po) : Int := (if p.debit = a then p.amt else 0) - (if p.credit = a then p.amt else 0)
def balI (l : List Po) (a : ByteArray) : Int := (l.map (balP a)).sum
theorem balI_snoc {l : List Po} {p : Po} {a : ByteArray} : balI (l ++ [p]) a = balI l a + balP a p := by
  unfold balI
  rw [List.map_append, List.sum_append]; simp
theorem balI_app {l m : List Po} {a : ByteArray} : balI (l ++ m) a = balI l a + balI m a := by
  unfold balI
  rw [List.map_append, List.sum_append]
/-- the map of all balances, posting by posting -/
def accS (ks : List (ByteArray × Int)) (p : Po) : List (ByteArray × Int) :=
  let k1 := putK ks p.debit ((getK ks p.debit).getD 0 + p.amt)
  putK k1 p.credit ((getK k1 p.credit).getD 0 - p.amt)
def accM (l : List Po) : List (ByteArray × Int) := l.foldl accS []
theorem accM_snoc {l : List Po} {p : Po} : accM (l ++ [p]) = accS (accM l) p := by simp [accM, List.foldl_append]
theorem accM_succ {l : List Po} {i : Nat} (h : i < l.length) : accM (l.take (i + 1)) = accS (accM (l.take i)) l[i] := by rw [take_snoc h, accM_snoc]
theorem accS_get {ks : List (ByteArray × Int)} {p : Po} {a : ByteArray} : (getK (accS ks p) a).getD 0 = (getK ks a).getD 0 + balP a p := by
  unfold accS balP
  simp only
  rw [getK_put]
  by_cases h1 : p.credit = a
  · subst h1
    rw [if_pos rfl, if_pos rfl, Option.getD_some, getK_put]
    by_cases h2 : p.debit = p.credit
    · rw [if_pos h2, if_pos h2, Option.getD_some, h2]
      omega
    · rw [if_neg h2, if_neg h2]
      omega
  · rw [if_neg h1, if_neg h1, getK_put]
    by_cases h2 : p.debit = a
    · subst h2
      rw [if_pos rfl, if_pos rfl, Option.getD_some]; omega
    · rw [if_neg h2, if_neg h2]; omega
theorem accM_getI (l : List Po) (a : ByteArray) : ∀ i, i ≤ l.length → (getK (accM (l.take i)) a).getD 0 = balI (l.take i) a
  | 0, _ => rfl
  | i + 1, h => by
    rw [accM_succ (by omega), accS_get, accM_getI l a i (by omega), take_snoc (by omega), balI_snoc]
theorem accM_get (l : List Po) (a : ByteArray) : (getK (accM l) a).getD 0 = balI l a := by
  have := accM_getI l a l.length (Nat.le_refl _)
  rwa [List.take_length] at this
def accK (l : List Po) : List ByteArray := (accM l).map (·.1)
theorem accS_keys {ks : List (ByteArray × Int)} {p : Po} : (accS ks p).map (·.1) = addK (addK (ks.map (·.1)) p.debit) p.credit := by
  unfold accS
  simp only
  rw [putK_keys, putK_keys]
theorem accK_all (l : List Po) : ∀ i, i ≤ l.length → (accK (l.take i)).Nodup ∧ ∀ a, a ∈ accK (l.take i) ↔ ∃ p ∈ l.take i, a = p.debit ∨ a = p.credit
  | 0, _ => ⟨.nil, fun a => by simp [accK, accM]⟩
  | i + 1, h => by
    obtain ⟨h1, h2⟩ := accK_all l i (by omega)
    unfold accK at h1 h2 ⊢
    rw [accM_succ (by omega), accS_keys]
    refine ⟨nodup_addK (nodup_addK h1), fun a => ?_⟩
    rw [mem_addK, mem_addK, h2, take_snoc (by omega)]
    rw [_root_.or_assoc]
    simp only [List.mem_append, List.mem_singleton, or_and_right, exists_or, exists_eq_left]
theorem accK_nodup (l : List Po) : (accK l).Nodup := by
  have := (accK_all l l.length (Nat.le_refl _)).1
  rwa [List.take_length] at this
theorem mem_accK {l : List Po} {a : ByteArray} : a ∈ accK l ↔ ∃ p ∈ l, a = p.debit ∨ a = p.credit := by
  have := (accK_all l l.length (Nat.le_refl _)).2 a
  rwa [List.take_length] at this
theorem sum_ite {K : List ByteArray} (hn : K.Nodup) {d : ByteArray} (hd : d ∈ K) (a : Int) : (K.map fun k => if d = k then a else 0).sum = a := by
  induction K with
  | nil => cases hd
  | cons x K ih =>
    rw [List.nodup_cons] at hn
    rw [List.map_cons, List.sum_cons]
    by_cases e : d = x
    · subst e
      have : ∀ K : List ByteArray, d ∉ K → (K.map fun k => if d = k then a else 0).sum = 0 := by
        intro K
        induction K with
        | nil => intro _; rfl
        | cons y K ih =>
          intro h
          rw [List.mem_cons, not_or] at h
          rw [List.map_cons, List.sum_cons, ih h.2, if_neg h.1]; rfl
      rw [if_pos rfl, this K hn.1]; omega
    · rcases List.mem_cons.1 hd with h | h
      · exact absurd h e
      · rw [if_neg e, ih hn.2 h]; omega
theorem sum_sub {α : Type} (f g : α → Int) (K : List α) : (K.map fun k => f k - g k).sum = (K.map f).sum - (K.map g).sum := by
  induction K with
  | nil => rfl
  | cons x K ih => simp only [List.map_cons, List.sum_cons, ih]; omega
theorem sum_addI {α : Type} (f g : α → Int) (K : List α) : (K.map fun k => f k + g k).sum = (K.map f).sum + (K.map g).sum := by
  induction K with
  | nil => rfl
  | cons x K ih => simp only [List.map_cons, List.sum_cons, ih]; omega
/-- the balances of all accounts add up to 0 -/
theorem bal_zero {K : List ByteArray} (hn : K.Nodup) : ∀ {l : List Po}, (∀ p ∈ l, p.debit ∈ K ∧ p.credit ∈ K) → (K.map (balI l)).sum = 0 := by
  intro l
  suffices h : ∀ i, i ≤ l.length → (∀ p ∈ l, p.debit ∈ K ∧ p.credit ∈ K) → (K.map (balI (l.take i))).sum = 0 from fun hl => by
    have := h l.length (Nat.le_refl _) hl
    rwa [List.take_length] at this
  intro i hi hl
  induction i with
  | zero =>
    have : ∀ K : List ByteArray, (K.map (balI ([] : List Po))).sum = 0 := by
      intro K
      induction K with
      | nil => rfl
      | cons x K ih => rw [List.map_cons, List.sum_cons, ih]; rfl
    exact this K
  | succ i ih =>
    have e : (fun a => balI (l.take (i + 1)) a) = fun a => balI (l.take i) a + ((if l[i].debit = a then l[i].amt else 0) - (if l[i].credit = a then l[i].amt else 0)) := by
      funext a
      rw [take_snoc (by omega), balI_snoc]; rfl
    obtain ⟨h1, h2⟩ := hl l[i] (List.getElem_mem _)
    show (K.map fun a => balI (l.take (i + 1)) a).sum = 0
    rw [e, sum_addI, sum_sub, sum_ite hn h1, sum_ite hn h2]
    have := ih (by omega)
    have this : (K.map fun a => balI (l.take i) a).sum = 0 := this
    omega
theorem perm_sum {a b : List Int} (h : a.Perm b) : a.sum = b.sum := by
  induction h with
  | nil => rfl
  | cons _ _ ih => simp only [List.sum_cons, ih]
  | swap => simp only [List.sum_cons]; omega
  | trans _ _ h1 h2 => rw [h1, h2]
/-! ### the lines of a trial -/
def accB (l : List Po) : List (List UInt8) := srtS ((accK l).map fun a => a.data.toList)
def trialL (l : List Po) : List (ByteArray × Int) := (accB l).map fun s => (strB s, balI l (strB s))
theorem accB_perm (l : List Po) : ((accB l).map strB).Perm (accK l) := by
  have h := (srtS_perm ((accK l).map fun a => a.data.toList)).map strB
  rw [List.map_map] at h
  have e : (strB ∘ fun a : ByteArray => a.data.toList) = id := by funext a; rfl
  rw [e, List.map_id] at h
  exact h
theorem trial_zero (l : List Po) : ((trialL l).map (·.2)).sum = 0 := by
  have e : (trialL l).map (·.2) = ((accB l).map strB).map (balI l) := by simp [trialL]
  rw [e, perm_sum ((accB_perm l).map (balI l))]
  exact bal_zero (accK_nodup l) fun p hp => ⟨mem_accK.2 ⟨p, hp, .inl rfl⟩, mem_accK.2 ⟨p, hp, .inr rfl⟩⟩
end Go.Proofs.YtfjihdlpohljbaaGreat
