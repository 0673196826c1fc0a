import Derived.Test.YtlejimjgagfalaaGreatDoorDnA
import Derived.Laws.BytesString
import Derived.Scope
import Derived.RangeFuncLeaves
import Derived.OrdersIn
namespace Go.Den
section
variable {P : Program} {C : Ctx} {Γ : Ga} {H : AHeap} {w : World}
theorem ziU (hC : CtxOk P C) (hr : Rel Γ H w) {tys : List TypeId} {ty : TypeId} {s s' x x' v : Value} {xs : List Value} {H' : AHeap} (h : appendA C H tys s x = some (v, H'))
  (hs : VR Γ s s') (hx : VR Γ x x') :
  ∃ Γ' v' w', (Builtin.append_ ⟨tys⟩ ty ⟨s' :: x' :: xs⟩).run P w = .ok v' w' ∧ Rel Γ' H' w' ∧ Adv Γ H w Γ' H' w' ∧ VR Γ' v v' := by
 unfold appendA at h;split at h
 ·rename_i st xt more base sl sc;split at h
  ·rename_i ti hst;split at h
   ·rename_i e hund;split at h
    ·rename_i ei he;split at h
     ·rename_i n l hnews;split at h
      ·cases h
      ·rename_i hcond;simp only [Bool.or_eq_true, beq_iff_eq, not_or, decide_eq_true_eq] at hcond;obtain ⟨⟨⟨c1, c2⟩, c3⟩, c4⟩ := hcond
       have hzs : ∃ z, zerosOf ei = some z := by
        cases hz : zerosOf ei with
        | none => rw [hz] at c4; simp at c4
        | some z => exact ⟨z, rfl⟩
       obtain ⟨z, hz⟩ := hzs;obtain ⟨base', sc', rfl⟩ : ∃ base' sc', s' = .slice base' sl sc' := by cases hs <;> exact ⟨_, _, rfl⟩
       unfold newsA at hnews;split at hnews
       ·rename_i xi hxt;split at hnews
        ·-- so many zeros
         rename_i q q2 li hq;split at hnews
         ·rename_i hli;split at hnews
          ·rename_i z2 hz2;rw [hz] at hz2; cases hz2;cases hnews;cases hx;obtain ⟨zv, hz1, hz2, hz3, hz4⟩ := zbg hz;rw [zfZ hC hst hund he hxt hq hli.1 hli.2 (by omega) c2];refine zgJ hC hr he hz h hs (l' := repl z li.toNat) ?_ (zbK (zcY hz4 _)) (by rw [zb5, hz3]);intro w' _;split
           ·rename_i h0
            have : repl z li.toNat = [] := by
             apply List.length_eq_zero_iff.1;rw [zb5, hz3]; exact h0
            rw [this]; rfl
           ·simp only [Sem.run_bind, zcl hC he hz1, Result.andThen_ok, Sem.run_pure]
            congr 1
            apply Array.toList_inj.1;rw [zdx, hz2]
          ·cases hnews
         ·cases hnews
        ·cases hnews
        ·rename_i hn1 hn2;split at hnews
         ·rename_i m hm;split at hnews
          ·rename_i l2 hl2;split at hnews
           ·rename_i hlen;cases hnews;obtain ⟨l', f1, f2⟩ := zea (P := P) hr hl2 hx;rw [zni hC hst hund he hxt hn1 (fun w => zfG (P := P) hm hx w) (by omega) c2];exact zgJ hC hr he hz h hs (l' := l') f1 f2 (by simpa using hlen)
           ·cases hnews
          ·cases hnews
         ·cases hnews
       ·cases hnews
     ·cases h
    ·cases h
   ·cases h
  ·cases h
 ·cases h
theorem zkE (hC : CtxOk P C) (hr : Rel Γ H w) {tys : List TypeId} {ty : TypeId} {d d' x x' v : Value} {xs : List Value} {H' : AHeap} (h : copyA C H tys d x = some (v, H'))
  (hd : VR Γ d d') (hx : VR Γ x x') :
  ∃ Γ' v' w', (Builtin.copy_ ⟨tys⟩ ty ⟨d' :: x' :: xs⟩).run P w = .ok v' w' ∧ Rel Γ' H' w' ∧ Adv Γ H w Γ' H' w' ∧ VR Γ' v v' := by
 unfold copyA at h;split at h
 ·cases h
 ·rename_i dt more;split at h
  ·rename_i ti hdt;split at h
   ·rename_i e hund;split at h
    ·rename_i ei base dl cp sn he hsn;simp only at h;obtain ⟨base', cp', rfl⟩ : ∃ base' cp', d' = .slice base' dl cp' := by cases hd <;> exact ⟨_, _, rfl⟩
     split at h
     ·rename_i l hl;obtain ⟨l', f1, f2⟩ := zea (P := P) hr hl hx;have hlenof := zfG (P := P) hsn hx
      have pre : (Builtin.copy_ ⟨dt :: more⟩ ty ⟨.slice base' dl cp' :: x' :: xs⟩).run P w =
        Result.andThen ((match base' with | some a => storeCells a l' | none => pure () : Sem Unit).run P w) fun _ w' => .ok (goInt (min sn dl : Nat)) w' := by
       unfold Builtin.copy_;simp only [List.getElem?_toArray, List.getElem?_cons_zero, List.getElem?_cons_succ, Sem.run_bind, zas hC hdt, Result.andThen_ok, hund, hlenof, zaU hC he];have : Nat.min sn dl = min sn dl := rfl;rw [this, f1 w rfl];simp only [Result.andThen_ok];cases base' <;> simp [goInt]
      rw [pre];split at h
      ·cases h; cases hd;exact ⟨Γ, _, w, rfl, hr, .refl _ _ _, .int _ _⟩
      ·rename_i b o
       cases hd with
       | slice hi hc =>
        rename_i i;split at h
        ·rename_i hn0;cases h;have hn0' : min sn dl = 0 := by simpa using hn0
         have hl0 : l = [] := by
          rw [hn0'] at hl;unfold srcCells at hl;split at hl
          ·cases hl; rfl
          ·split at hl
           ·exact List.length_eq_zero_iff.1 (by have := (zb3 hl).1; simpa using this)
           ·cases hl
          ·split at hl
           ·cases hl; rfl
           ·cases hl
          ·cases hl; simp
          ·cases hl
         have : l' = [] := by
          subst hl0; cases f2; rfl
         subst this;exact ⟨Γ, _, w, rfl, hr, .refl _ _ _, .int _ _⟩
        ·split at h
         ·cases h
         ·rename_i hone;split at h
          ·rename_i cs z k hb;split at h
           ·rename_i hown;split at h
            ·rename_i cs' hw;cases h;obtain ⟨w', s1, s2, s3⟩ := zes hr hb hown hw f2 (by simpa using hone) hi;refine ⟨Γ, _, w', ?_, s2, s3, .int _ _⟩;simp only [s1 P, Result.andThen_ok];rfl
            ·cases h
           ·cases h
          ·cases h
      ·cases h
     ·cases h
    ·cases h
   ·cases h
  ·cases h
theorem zjU (hC : CtxOk P C) (hr : Rel Γ H w) {tys : List TypeId} {ty : TypeId} {x x' v : Value} {xs : List Value} {H' : AHeap} (h : clearA C H tys x = some (v, H')) (hx : VR Γ x x') :
  ∃ Γ' v' w', (Builtin.clear_ ⟨tys⟩ ty ⟨x' :: xs⟩).run P w = .ok v' w' ∧ Rel Γ' H' w' ∧ Adv Γ H w Γ' H' w' ∧ VR Γ' v v' := by
 unfold clearA at h;split at h
 ·cases h
 ·rename_i t more;split at h
  ·rename_i ti ht;split at h
   ·rename_i e b o n c hund
    cases hx with
    | slice hi hc =>
     rename_i c' i;split at h
     ·rename_i hn;have hn' : n = 0 := by simpa using hn
      subst hn';cases h;refine ⟨Γ, _, w, ?_, hr, .refl _ _ _, .undef⟩;unfold Builtin.clear_;simp [zas hC ht, hund, undefV]
     ·rename_i hn;have hn' : n ≠ 0 := by simpa using hn
      split at h
      ·rename_i ei cs z k he hb;split at h
       ·rename_i zs hz;split at h
        ·rename_i hown;split at h
         ·rename_i cs' hw;cases h;obtain ⟨zv, hz1, hz2, hz3, hz4⟩ := zbg hz
          have hone : (repl zs n).all oneCell = true := by
           refine List.all_eq_true.2 fun a ha => ?_
           have := List.all_eq_true.1 (zcY hz4 n) a ha;cases a <;> simp [constOk] at this <;> rfl
          obtain ⟨w', s1, s2, s3⟩ := zes hr hb hown hw (zbK (Γ := Γ) (zcY hz4 n)) hone hi;refine ⟨Γ, _, w', ?_, s2, s3, .undef⟩;unfold Builtin.clear_;obtain ⟨m, rfl⟩ : ∃ m, n = m + 1 := ⟨n - 1, by omega⟩
          simp only [List.getElem?_toArray, List.getElem?_cons_zero, Sem.run_bind, zas hC ht, hund, Result.andThen_ok, zcl hC he hz1, zdx, hz2, s1 P, Sem.run_pure];rfl
         ·cases h
        ·cases h
       ·cases h
      ·cases h
   ·rename_i e hund;cases h; cases hx;refine ⟨Γ, _, w, ?_, hr, .refl _ _ _, .undef⟩;unfold Builtin.clear_;simp [zas hC ht, hund, undefV]
   ·cases h
  ·cases h
end
end Go.Den
namespace Go.Den
section
variable {P : Program} {C : Ctx} {Γ : Ga} {H : AHeap} {w : World}
theorem flatV {v v' : Value} (h : VR Γ v v') (hf : v.cells.toList.all flatC = true) : v' = v := by
 cases h with
 | agg h => rw [VR.flatL h hf]
 | _ => first | rfl | (simp [Value.cells, flatC] at hf)
theorem zm9 (hC : CtxOk P C) (em : Bool) : ∀ (d : Nat) (t : TypeId) (x : Value), chkV C d t x = true → ∀ (D : Nat) (w : World), d ≤ D → (Instr.checkKey em D t x).run P w = .ok () w := by
 intro d
 induction d with
 | zero => intro t x h; simp [chkV] at h
 | succ d ih =>
  intro t x h D w hD;obtain ⟨D', rfl⟩ : ∃ D', D = D' + 1 := ⟨D - 1, by omega⟩
  unfold chkV at h;split at h
  ·rename_i i ht;split at h
   ·rename_i b hund; simp [Instr.checkKey, zas hC ht, hund]
   ·rename_i k b hund; simp [Instr.checkKey, zas hC ht, hund]
   ·rename_i s hund; simp [Instr.checkKey, zas hC ht, hund]
   ·rename_i fs xs hund;simp only [Instr.checkKey, Sem.run_bind, zas hC ht, Result.andThen_ok, hund];rw [← Array.forIn_toList];clear hund ht
    revert h
    generalize fs.toList = l
    intro h
    induction l with
    | nil => rfl
    | cons f l ihl =>
     simp only [chkFs] at h;split at h
     ·cases h
     ·rename_i hn;have hn' : f.name ≠ "_" := by simpa using hn
      split at h
      ·rename_i fi hfi;split at h
       ·rename_i a ha;simp only [Bool.and_eq_true] at h;simp only [List.forIn_cons, hn', ne_eq, not_false_eq_true, if_true, Sem.run_bind, zbC hC hfi ha, Result.andThen_ok, ih _ _ h.1 D' w (by omega), Sem.run_pure];exact ihl h.2
       ·cases h
      ·cases h
   ·rename_i n e xs hund;split at h
    ·rename_i ei hei;simp only [Instr.checkKey, Sem.run_bind, zas hC ht, Result.andThen_ok, hund];simp only [Std.Legacy.Range.forIn_eq_forIn_range', Std.Legacy.Range.size, Nat.sub_zero, Nat.add_one_sub_one, Nat.div_one, ← List.range_eq_range'];clear hund ht
     revert h
     generalize List.range n = l
     intro h
     induction l with
     | nil => rfl
     | cons j l ihl =>
      simp only [chkIs] at h;split at h
      ·rename_i a ha;simp only [Bool.and_eq_true] at h;simp only [List.forIn_cons, Sem.run_bind, zaU hC hei, Result.andThen_ok, zbC hC hei ha, ih _ _ h.1 D' w (by omega), Sem.run_pure];exact ihl h.2
      ·cases h
    ·cases h
   ·cases h
  ·cases h
def FoundR (Γ : Ga) (es : List MapEntry) (es' : List MapEntry) (i : Nat) : Option (Nat × MapEntry) → Option (Nat × Value) → Prop
 | none, none => True
 | some (j, e), some (j', v') => j = j' ∧ i ≤ j ∧ ∃ e', es'[j - i]? = some e' ∧ v' = e'.val ∧ EntR Γ e e' ∧ es[j - i]? = some e
 | _, _ => False
theorem FoundR.succ {es es' : List MapEntry} {a b : MapEntry} {i : Nat} {r : Option (Nat × MapEntry)} {r' : Option (Nat × Value)} (h : FoundR Γ es es' (i + 1) r r') : FoundR Γ (a :: es) (b :: es') i r r' := by
 cases r with
 | none => cases r' with
  | none => trivial
  | some _ => exact h
 | some x => cases r' with
  | none => exact h
  | some y =>
   obtain ⟨j, e⟩ := x;obtain ⟨j', v'⟩ := y;obtain ⟨h1, h2, e', h3, h4, h5, h6⟩ := h;refine ⟨h1, by omega, e', ?_, h4, h5, ?_⟩
   ·have : j - i = (j - (i + 1)) + 1 := by omega
    rw [this]; simpa using h3
   ·have : j - i = (j - (i + 1)) + 1 := by omega
    rw [this]; simpa using h6
theorem zks (hC : CtxOk P C) {kt : TypeId} {ki : TI} (hk : C.ty.get kt = some ki) {k : Value} : ∀ {es es' : List MapEntry} {i : Nat} {r : Option (Nat × MapEntry)},
  findA P C kt k es i = some r → All2 (EntR Γ) es es' →
  ∃ r', FoundR Γ es es' i r r' ∧ (∀ w, (Instr.findAsking kt k es' i).run P w = .ok r' w) ∧ (Instr.findNow ki.und k es' i = none ∨ Instr.findNow ki.und k es' i = some r') := by
 intro es
 induction es with
 | nil =>
  intro es' i r h hes;cases hes;simp only [findA] at h; cases h
  exact ⟨none, trivial, fun w => rfl, .inr rfl⟩
 | cons e es ih =>
  intro es' i r h hes
  cases hes with
  | cons he hes =>
   rename_i e' es';simp only [findA] at h;split at h
   ·cases h
   ·rename_i hfl;have hkey : e'.key = e.key := flatV he.key (by simpa using hfl)
    have now : ∀ b, eqV P C 20 kt k e.key = some b → Instr.sameNow ki.und k e'.key = none ∨ Instr.sameNow ki.und k e'.key = some b := by
     intro b hb;rw [hkey];unfold eqV at hb;rw [hk] at hb;unfold Instr.sameNow;simp only at hb;split at hb
     ·rename_i hu hk2; cases hb; right; rw [hu, hk2]
     ·rename_i hu hk2;split at hb
      ·rename_i hkk; cases hb; subst hkk; right; rw [hu, hk2]; simp
      ·cases hb
     ·rename_i x y hu hk2; cases hb; right;rw [hu, hk2, zdt, ← beq_toListBytes]
     ·rename_i hu hk2; left; rw [hu]
     ·rename_i hu hk2; left; rw [hu]
     ·cases hb
    split at h
    ·rename_i hb;cases h;refine ⟨some (i, e'.val), ⟨rfl, Nat.le_refl _, e', by simp, rfl, he, by simp⟩, fun w => ?_, ?_⟩
     ·unfold Instr.findAsking;rw [hkey];simp only [Sem.run_bind, Op.equal, Op.maxDepth, zg6 hC 20 _ _ _ _ hb 10000 w (by omega), Result.andThen_ok, if_true, Sem.run_pure]
     ·unfold Instr.findNow;rcases now _ hb with hn | hn
      ·left; rw [hn]
      ·right; rw [hn]
    ·rename_i hb;obtain ⟨r', h1, h2, h3⟩ := ih h hes;refine ⟨r', h1.succ, fun w => ?_, ?_⟩
     ·unfold Instr.findAsking;rw [hkey];simp only [Sem.run_bind, Op.equal, Op.maxDepth, zg6 hC 20 _ _ _ _ hb 10000 w (by omega), Result.andThen_ok, Bool.false_eq_true, if_false];exact h2 w
     ·unfold Instr.findNow;rcases now _ hb with hn | hn
      ·left; rw [hn]
      ·rw [hn]; exact h3
    ·cases h
theorem zbD (hC : CtxOk P C) {kt : TypeId} {ki : TI} (hk : C.ty.get kt = some ki) {k : Value} {es es' : List MapEntry} {r : Option (Nat × MapEntry)}
  (h : findA P C kt k es 0 = some r) (hes : All2 (EntR Γ) es es') : ∃ r', FoundR Γ es es' 0 r r' ∧ ∀ w, (Instr.findKey kt k es').run P w = .ok r' w := by
 obtain ⟨r', h1, h2, h3⟩ := zks hC hk h hes;refine ⟨r', h1, fun w => ?_⟩;unfold Instr.findKey;simp only [Sem.run_bind, zas hC hk, Result.andThen_ok];rcases h3 with h3 | h3
 ·rw [h3]; exact h2 w
 ·rw [h3]; rfl
theorem zfq (hC : CtxOk P C) {kt : TypeId} {k k' : Value} (h : keyOk C kt k = true) (hk : VR Γ k k') : k' = k ∧ (∃ ki, C.ty.get kt = some ki) ∧ ∀ em w, (Instr.checkKey em 10000 kt k).run P w = .ok () w := by
 unfold keyOk at h;simp only [Bool.and_eq_true] at h;refine ⟨flatV hk h.1, ?_, fun em w => zm9 hC em 20 kt k h.2 10000 w (by omega)⟩;have h2 := h.2;unfold chkV at h2;split at h2
 ·rename_i ki hki; exact ⟨ki, hki⟩
 ·cases h2
theorem zco {t k e : TypeId} (h : mapTypes C t = some (k, e)) : ∃ ti, C.ty.get t = some ti ∧ ti.und = .map k e := by
 unfold mapTypes at h;split at h
 ·rename_i ti ht;split at h
  ·rename_i k' e' hund;cases h;exact ⟨ti, ht, hund⟩
  ·cases h
 ·cases h
theorem run_getObj_map {r : Nat} {es : Array MapEntry} {cl : Nat} (h : w.heap[r]? = some (.map es cl)) : (getObj r).run P w = .ok (.map es cl) w := by simp [getObj, Sem.run, h]
theorem zcQ {r : Nat} {o : Obj} (o' : Obj) (h : w.heap[r]? = some o) (hn : ∀ c e f, o ≠ .cells c e f) : (setObj r o').run P w = .ok () (w.putObj r o') := by
 unfold setObj;simp only [Sem.run, h];cases o <;> first | rfl | exact absurd rfl (hn _ _ _)
theorem zbM {r : Nat} {o : Obj} (o' : Obj) (h : w.heap[r]? = some o) : Turned w (w.putObj r o') r o' :=
 ⟨by simp, World.putObj_heap_same (Array.getElem?_eq_some_iff.1 h).1, fun k hk => World.putObj_heap_other hk, rfl, rfl, rfl⟩
theorem zhw (hC : CtxOk P C) {t : TypeId} {z : Value} (h : zeroV C t = some z) : (∀ w, (zeroValue t).run P w = .ok z w) ∧ VR Γ z z := by
 unfold zeroV at h;split at h
 ·rename_i ti ht;split at h
  ·rename_i zv hz;split at h
   ·rename_i hc;cases h;refine ⟨fun w => zcl hC ht hz w, ?_⟩
    cases z with
    | agg cs => exact .agg (zbK hc)
    | _ => first | (exact VR.const (by simpa [Value.cells] using hc))
   ·cases h
  ·cases h
 ·cases h
theorem Rel.mapBlk (hr : Rel Γ H w) {r : Nat} {es : List MapEntry} {cl : Nat} {ro : Bool} (hb : H.get r = some (.map es cl ro)) :
  ∃ i es', Γ r = some i ∧ w.heap[i.real]? = some (.map es' cl) ∧ All2 (EntR Γ) es es'.toList := by
 obtain ⟨i, o, hi, ho, es', rfl, hes⟩ := hr.blk _ _ hb;exact ⟨i, es', hi, ho, hes⟩
theorem tuple2 {a b a' b' : Value} (h : VR Γ a a') (k : VR Γ b b') : VR Γ (.tuple #[a, b]) (.tuple #[a', b']) := .tuple (.cons h (.cons k .nil))
theorem ziE (hr : Rel Γ H w) {m m' : Value} {es : List MapEntry} (h : entriesOf H m = some es) (hm : VR Γ m m') :
  ∃ es' : Array MapEntry, All2 (EntR Γ) es es'.toList ∧ ((m' = .map none ∧ es' = #[]) ∨ ∃ r cl, m' = .map (some r) ∧ w.heap[r]? = some (.map es' cl)) := by
 unfold entriesOf at h;split at h
 ·cases h; cases hm; exact ⟨#[], .nil, .inl ⟨rfl, rfl⟩⟩
 ·split at h
  ·rename_i es0 cl ro hb;cases h
   cases hm with
   | map hi =>
    obtain ⟨i, es', hi', ho, hall⟩ := hr.mapBlk hb;rw [hi] at hi'; cases hi';exact ⟨es', hall, .inr ⟨_, cl, rfl, ho⟩⟩
  ·cases h
 ·cases h
theorem zhL (hC : CtxOk P C) {t kt et : TypeId} {ti : TI} (ht : C.ty.get t = some ti) (hund : ti.und = .map kt et) {m' k : Value} {es' : Array MapEntry}
  (hs : (m' = .map none ∧ es' = #[]) ∨ ∃ r cl, m' = .map (some r) ∧ w.heap[r]? = some (.map es' cl)) (hchk : ∀ em w, (Instr.checkKey em 10000 kt k).run P w = .ok () w)
  {r' : Option (Nat × Value)} (hf : ∀ w, (Instr.findKey kt k es'.toList).run P w = .ok r' w) (ok : Bool) {v : Value} {b : Bool} (hv : (r' = none ∧ b = false ∧ ∀ w, (zeroValue et).run P w = .ok v w) ∨ ∃ j, r' = some (j, v) ∧ b = true) :
  (Instr.lookup t m' k ok).run P w = .ok (if ok then .tuple #[v, .bool b] else v) w := by
 unfold Instr.lookup;rcases hs with ⟨rfl, rfl⟩ | ⟨r, cl, rfl, ho⟩ <;> rcases hv with ⟨rfl, rfl, hz⟩ | ⟨j, rfl, rfl⟩
 ·simp only [Sem.run_bind, zas hC ht, hund, Result.andThen_ok, Sem.run_pure, hchk, hf, hz]
 ·simp only [Sem.run_bind, zas hC ht, hund, Result.andThen_ok, Sem.run_pure, hchk, hf]
 ·simp only [Sem.run_bind, zas hC ht, hund, Result.andThen_ok, Sem.run_pure, run_getObj_map ho, hchk, hf, hz]
 ·simp only [Sem.run_bind, zas hC ht, hund, Result.andThen_ok, Sem.run_pure, run_getObj_map ho, hchk, hf]
theorem ziv (hC : CtxOk P C) (hr : Rel Γ H w) {t : TypeId} {m m' k k' v : Value} {ok : Bool} (h : lookupA P C H t m k ok = some v) (hm : VR Γ m m') (hk : VR Γ k k') :
  ∃ v', (Instr.lookup t m' k' ok).run P w = .ok v' w ∧ VR Γ v v' := by
 unfold lookupA at h;split at h
 ·rename_i kt et es hmt hes;obtain ⟨ti, ht, hund⟩ := zco hmt;obtain ⟨es', hall, hs⟩ := ziE hr hes hm;split at h
  ·rename_i hko;obtain ⟨rfl, ⟨ki, hki⟩, hchk⟩ := zfq (P := P) hC hko hk;split at h
   ·rename_i j e hf;obtain ⟨r', f1, f2⟩ := zbD hC hki hf hall
    cases r' with
    | none => exact f1.elim
    | some x =>
     obtain ⟨j', v'⟩ := x;obtain ⟨_, _, e', _, rfl, hent, _⟩ := f1;cases h;refine ⟨_, zhL hC ht hund hs hchk f2 ok (.inr ⟨j', rfl, rfl⟩), ?_⟩;cases ok
     ·exact hent.val
     ·exact tuple2 hent.val (.bool true)
   ·rename_i hf;obtain ⟨r', f1, f2⟩ := zbD hC hki hf hall
    cases r' with
    | some _ => exact f1.elim
    | none =>
     split at h
     ·rename_i z hz;obtain ⟨z1, z2⟩ := zhw (Γ := Γ) hC hz;cases h;refine ⟨_, zhL hC ht hund hs hchk f2 ok (.inl ⟨rfl, rfl, z1⟩), ?_⟩;cases ok
      ·exact z2
      ·exact tuple2 z2 (.bool false)
     ·cases h
   ·cases h
  ·cases h
 ·cases h
theorem zfJ {a b : Value} (h : sameKey a b = true) (n : Nat) : Instr.sameBits (n + 2) a b = true := by
 have scal : ∀ (n : Nat) (x y : Value), eqFlat x y = some true → Instr.sameBits (n + 1) x y = true := by
  intro n x y h;unfold eqFlat at h;split at h
  ·simpa [Instr.sameBits] using h
  ·split at h
   ·rename_i hk; subst hk; simpa [Instr.sameBits] using h
   ·cases h
  ·simp only [Option.some.injEq] at h;rw [zdt, ← beq_toListBytes] at h;simpa [Instr.sameBits] using h
  ·cases h
 unfold sameKey at h;split at h
 ·rename_i xs ys;have h' : eqFlats xs.toList ys.toList = some true := by simpa using h
  have ind : ∀ (l m : List Value), eqFlats l m = some true → l.length = m.length ∧ (l.zip m).all (fun (x, y) => Instr.sameBits (n + 1) x y) = true := by
   intro l
   induction l with
   | nil => intro m hm; cases m <;> simp [eqFlats] at hm ⊢
   | cons x l ih =>
    intro m hm
    cases m with
    | nil => simp [eqFlats] at hm
    | cons y m =>
     simp only [eqFlats] at hm;split at hm
     ·rename_i hxy;obtain ⟨i1, i2⟩ := ih m hm;exact ⟨by simp [i1], by simp only [List.zip_cons_cons, List.all_cons, scal n x y hxy, i2, Bool.and_self]⟩
     ·cases hm
     ·cases hm
  obtain ⟨e1, e2⟩ := ind _ _ h';simp only [Instr.sameBits, Bool.and_eq_true, beq_iff_eq];exact ⟨by simpa using e1, e2⟩
 ·exact scal (n + 1) _ _ (by simpa using h)
theorem zfI {a b : Value} (h : sameKey a b = true) : a.cells.toList.all flatC = true := by
 have scal : ∀ (x y : Value), eqFlat x y = some true → flatC x = true := by
  intro x y h;unfold eqFlat at h;split at h <;> first | rfl | cases h
 unfold sameKey at h;split at h
 ·rename_i xs ys;have h' : eqFlats xs.toList ys.toList = some true := by simpa using h
  have ind : ∀ (l m : List Value), eqFlats l m = some true → l.all flatC = true := by
   intro l
   induction l with
   | nil => intro m _; rfl
   | cons x l ih =>
    intro m hm
    cases m with
    | nil => simp [eqFlats] at hm
    | cons y m =>
     simp only [eqFlats] at hm;split at hm
     ·rename_i hxy;simp only [List.all_cons, scal x y hxy, ih m hm, Bool.and_self]
     ·cases hm
     ·cases hm
  exact ind _ _ h'
 ·have h' := scal _ _ (by simpa using h);cases a <;> simp [flatC] at h' <;> rfl
theorem zfn {f : MapEntry → MapEntry} {f' : MapEntry → MapEntry} : ∀ {es es' : List MapEntry} (i : Nat), All2 (EntR Γ) es es' → (∀ e e', es[i]? = some e → es'[i]? = some e' → EntR Γ e e' → EntR Γ (f e) (f' e')) →
  All2 (EntR Γ) (modE es i f) (es'.modify i f') := by
 intro es
 induction es with
 | nil => intro es' i h _; cases h; cases i <;> exact .nil
 | cons e es ih =>
  intro es' i h hf
  cases h with
  | cons h1 h2 =>
   cases i with
   | zero => exact .cons (hf _ _ rfl rfl h1) h2
   | succ i => exact .cons h1 (ih i h2 (fun a b ha hb => hf a b (by simpa using ha) (by simpa using hb)))
theorem zgI (hr : Rel Γ H w) {r : Nat} {es es2 : List MapEntry} {cl cl2 : Nat} (hb : H.get r = some (.map es cl false)) (hown : own r = true) {i : BI} (hi : Γ r = some i) {es' es2' : Array MapEntry}
  (ho : w.heap[i.real]? = some (.map es' cl)) (hall : All2 (EntR Γ) es2 es2'.toList) :
  (∀ P : Program, (setObj i.real (.map es2' cl2)).run P w = .ok () (w.putObj i.real (.map es2' cl2))) ∧ Rel Γ (H.put r (.map es2 cl2 false)) (w.putObj i.real (.map es2' cl2)) ∧ Adv Γ H w Γ (H.put r (.map es2 cl2 false)) (w.putObj i.real (.map es2' cl2)) := by
 obtain ⟨a, b⟩ := hr.put (x' := .map es2 cl2 false) hb rfl hown hi (zbM _ ho) ⟨es2', rfl, hall⟩;exact ⟨fun P => zcQ _ ho (fun _ _ _ h => by cases h), a, b⟩
theorem zdu (hC : CtxOk P C) (hr : Rel Γ H w) {t : TypeId} {m m' k k' v v' : Value} {H' : AHeap} (h : mapUpdateA P C H t m k v = some H') (hm : VR Γ m m') (hk : VR Γ k k') (hv : VR Γ v v') :
  ∃ w', (Instr.mapUpdate t m' k' v').run P w = .ok () w' ∧ Rel Γ H' w' ∧ Adv Γ H w Γ H' w' := by
 unfold mapUpdateA at h;split at h
 ·rename_i kt et r hmt;obtain ⟨ti, ht, hund⟩ := zco hmt;split at h
  ·rename_i es cl hb;split at h
   ·rename_i hko;simp only [Bool.and_eq_true] at hko;obtain ⟨rfl, ⟨ki, hki⟩, hchk⟩ := zfq (P := P) hC hko.1 hk
    cases hm with
    | map hi =>
     rename_i i;obtain ⟨i2, es', hi', ho, hall⟩ := hr.mapBlk hb;rw [hi] at hi'; cases hi';split at h
     ·rename_i j e hf;obtain ⟨r', f1, f2⟩ := zbD hC hki hf hall
      cases r' with
      | none => exact f1.elim
      | some x =>
       obtain ⟨j', v0⟩ := x;obtain ⟨rfl, _, e', g1, rfl, hent, g2⟩ := f1;simp only [Nat.sub_zero] at g1 g2;split at h
       ·rename_i hsame;cases h
        obtain ⟨p1, p2, p3⟩ := zgI (cl2 := cl) hr hb hko.2 hi (es2 := modE es j fun e => { e with key := k', val := v }) (es2' := es'.modify j fun e => { e with key := k', val := v' }) ho (by
         rw [Array.toList_modify];exact zfn j hall (fun a b _ _ hab => ⟨hk, hv, hab.born⟩))
        refine ⟨_, ?_, p2, p3⟩;have hkey : e'.key = e.key := flatV hent.key (zfI hsame)
        have hks : (Instr.keyThatStays (((es'[j]?).map (·.key)).getD k') k').run P w = .ok k' w := by
         have : es'[j]? = some e' := by simpa using g1
         unfold Instr.keyThatStays;rw [this];simp only [Option.map_some, Option.getD_some, hkey, zfJ hsame 9998, if_true, Sem.run_pure]
        unfold Instr.mapUpdate;simp only [Sem.run_bind, zas hC ht, hund, Result.andThen_ok, run_getObj_map ho, hchk, f2, hks, p1 P]
       ·cases h
     ·rename_i hf;obtain ⟨r', f1, f2⟩ := zbD hC hki hf hall
      cases r' with
      | some _ => exact f1.elim
      | none =>
       cases h
       obtain ⟨p1, p2, p3⟩ := zgI (cl2 := cl + 1) hr hb hko.2 hi (es2 := es ++ [{ key := k', val := v, born := cl }]) (es2' := es'.push { key := k', val := v', born := cl }) ho (by
        rw [Array.toList_push];exact hall.append (.cons ⟨hk, hv, rfl⟩ .nil))
       refine ⟨_, ?_, p2, p3⟩;unfold Instr.mapUpdate;simp only [Sem.run_bind, zas hC ht, hund, Result.andThen_ok, run_getObj_map ho, hchk, f2, p1 P]
     ·cases h
   ·cases h
  ·cases h
 ·cases h
theorem zrd {es es' : List MapEntry} (h : All2 (EntR Γ) es es') (n : Int) : ∀ (i j : Nat), findBorn es n i = some j → i ≤ j ∧ es'.findIdx? (fun e => (e.born : Int) == n) = some (j - i) := by
 induction h with
 | nil => intro i j h; simp [findBorn] at h
 | cons h _ ih =>
  intro i j hj;simp only [findBorn] at hj;rw [List.findIdx?_cons, h.born];split at hj
  ·rename_i hb;cases hj;simp [hb]
  ·rename_i hb;obtain ⟨h1, h2⟩ := ih (i + 1) j hj;refine ⟨by omega, ?_⟩;simp only [hb, Bool.false_eq_true, if_false, h2, Option.map_some]
   congr 1; omega
theorem zgS (hC : CtxOk P C) (hr : Rel Γ H w) {t : TypeId} {m m' k k' v : Value} {H' : AHeap} (h : mapEntryA P C H t m k = some (v, H')) (hm : VR Γ m m') (hk : VR Γ k k') :
  ∃ v' w', (Instr.mapEntry t m' k').run P w = .ok v' w' ∧ Rel Γ H' w' ∧ Adv Γ H w Γ H' w' ∧ VR Γ v v' := by
 unfold mapEntryA at h;split at h
 ·rename_i kt et r hmt;obtain ⟨ti, ht, hund⟩ := zco hmt;split at h
  ·rename_i es cl hb;split at h
   ·rename_i hko;simp only [Bool.and_eq_true] at hko;obtain ⟨rfl, ⟨ki, hki⟩, hchk⟩ := zfq (P := P) hC hko.1 hk
    cases hm with
    | map hi =>
     rename_i i;obtain ⟨i2, es', hi', ho, hall⟩ := hr.mapBlk hb;rw [hi] at hi'; cases hi';split at h
     ·rename_i j e hf;obtain ⟨r', f1, f2⟩ := zbD hC hki hf hall
      cases r' with
      | none => exact f1.elim
      | some x =>
       obtain ⟨j', v0⟩ := x;obtain ⟨rfl, _, e', g1, rfl, hent, g2⟩ := f1;simp only [Nat.sub_zero] at g1 g2;split at h
       ·rename_i hsame;cases h
        obtain ⟨p1, p2, p3⟩ := zgI (cl2 := cl) hr hb hko.2 hi (es2 := modE es j fun e => { e with key := k' }) (es2' := es'.modify j fun e => { e with key := k' }) ho (by
         rw [Array.toList_modify];exact zfn j hall (fun a b _ _ hab => ⟨hk, hab.val, hab.born⟩))
        refine ⟨_, _, ?_, p2, p3, tuple2 hent.val (.int _ _)⟩;have hkey : e'.key = e.key := flatV hent.key (zfI hsame);have hj : es'[j]? = some e' := by simpa using g1
        have hks : (Instr.keyThatStays e'.key k').run P w = .ok k' w := by
         unfold Instr.keyThatStays;simp only [hkey, zfJ hsame 9998, if_true, Sem.run_pure]
        unfold Instr.mapEntry;simp only [Sem.run_bind, zas hC ht, hund, Result.andThen_ok, run_getObj_map ho, hchk, f2, hks, p1 P, Sem.run_pure, hj, Option.map_some, Option.getD_some, goInt, hent.born]
       ·cases h
     ·rename_i hf;obtain ⟨r', f1, f2⟩ := zbD hC hki hf hall
      cases r' with
      | some _ => exact f1.elim
      | none =>
       split at h
       ·rename_i z hz;obtain ⟨z1, z2⟩ := zhw (Γ := Γ) hC hz;cases h
        obtain ⟨p1, p2, p3⟩ := zgI (cl2 := cl + 1) hr hb hko.2 hi (es2 := es ++ [{ key := k', val := z, born := cl }]) (es2' := es'.push { key := k', val := z, born := cl }) ho (by
         rw [Array.toList_push];exact hall.append (.cons ⟨hk, z2, rfl⟩ .nil))
        refine ⟨_, _, ?_, p2, p3, tuple2 z2 (.int _ _)⟩;unfold Instr.mapEntry;simp only [Sem.run_bind, zas hC ht, hund, Result.andThen_ok, run_getObj_map ho, hchk, f2, z1, p1 P, Sem.run_pure, goInt]
       ·cases h
     ·cases h
   ·cases h
  ·cases h
 ·cases h
theorem zfw (hr : Rel Γ H w) {t : TypeId} {m m' s s' v v' : Value} {H' : AHeap} (h : entryStoreA H m s v = some H') (hm : VR Γ m m') (hs : VR Γ s s') (hv : VR Γ v v') :
  ∃ w', (Instr.entryStore t m' s' v').run P w = .ok () w' ∧ Rel Γ H' w' ∧ Adv Γ H w Γ H' w' := by
 unfold entryStoreA at h;split at h
 ·rename_i r q n;split at h
  ·rename_i es cl hb;split at h
   ·rename_i hown
    cases hm with
    | map hi =>
     rename_i i;cases hs;obtain ⟨i2, es', hi', ho, hall⟩ := hr.mapBlk hb;rw [hi] at hi'; cases hi';split at h
     ·rename_i j hj;cases h;obtain ⟨b1, b2⟩ := zrd hall n 0 j hj
      obtain ⟨p1, p2, p3⟩ := zgI (cl2 := cl) hr hb hown hi (es2 := modE es j fun e => { e with val := v }) (es2' := es'.modify j fun e => { e with val := v' }) ho (by
       rw [Array.toList_modify];exact zfn j hall (fun a b _ _ hab => ⟨hab.key, hv, hab.born⟩))
      refine ⟨_, ?_, p2, p3⟩
      have hf : es'.findIdx? (fun e => (e.born : Int) == n) = some j := by
       cases es' with | mk l => simpa using b2
      unfold Instr.entryStore;simp only [Sem.run_bind, Result.andThen_ok, run_getObj_map ho, asInt, asIntOf, Sem.run_pure, hf, p1 P]
     ·cases h
   ·cases h
  ·cases h
 ·cases h
theorem zjh (hC : CtxOk P C) (hr : Rel Γ H w) {t : TypeId} {x x' v : Value} {H' : AHeap} (h : rangeA C H t x = some (v, H')) (hx : VR Γ x x') :
  ∃ Γ' v' w', (Instr.range t x').run P w = .ok v' w' ∧ Rel Γ' H' w' ∧ Adv Γ H w Γ' H' w' ∧ VR Γ' v v' := by
 have fin : ∀ (b : ABlk) (o : Obj), ObjR Γ { real := w.heap.size, rsize := 0, shift := 0, size := 0, esz := 0, slack := false } b o → b.isOwn = true →
   Rel (Γ.upd H.fresh { real := w.heap.size, rsize := 0, shift := 0, size := 0, esz := 0, slack := false }) (H.add b) (w.alloc o) ∧
   Adv Γ H w (Γ.upd H.fresh { real := w.heap.size, rsize := 0, shift := 0, size := 0, esz := 0, slack := false }) (H.add b) (w.alloc o) ∧
   VR (Γ.upd H.fresh { real := w.heap.size, rsize := 0, shift := 0, size := 0, esz := 0, slack := false }) (.pointer (some ⟨H.fresh, 0, none⟩)) (.pointer (some ⟨w.heap.size, 0, none⟩)) := by
  intro b o ho hown;obtain ⟨a1, a2⟩ := hr.add b o _ rfl ho hown;exact ⟨a1, a2, VR.ptr (i := { real := w.heap.size, rsize := 0, shift := 0, size := 0, esz := 0, slack := false }) (by simp [Ga.upd])⟩
 unfold rangeA at h;split at h
 ·rename_i ti ht;split at h
  ·rename_i s hund;cases h; cases hx;obtain ⟨a1, a2, a3⟩ := fin (.siter s 0) (.stringIter s 0) ⟨rfl, rfl⟩ rfl;refine ⟨_, _, _, ?_, a1, a2, a3⟩;unfold Instr.range;simp only [Sem.run_bind, zas hC ht, hund, Result.andThen_ok, Sem.run_pure, run_newObj];rfl
  ·rename_i k e hund;cases h; cases hx;obtain ⟨a1, a2, a3⟩ := fin (.miter none 0 [] 0) (.mapIter none 0 #[] 0) ⟨rfl, rfl⟩ rfl;refine ⟨_, _, _, ?_, a1, a2, a3⟩;unfold Instr.range;simp only [Sem.run_bind, zas hC ht, hund, Result.andThen_ok, Sem.run_pure, run_newObj];rfl
  ·rename_i k e m hund;split at h
   ·rename_i es cl ro hb;cases h
    cases hx with
    | map hi =>
     rename_i i;obtain ⟨i2, es', hi', ho, hall⟩ := hr.mapBlk hb;rw [hi] at hi'; cases hi';obtain ⟨a1, a2, a3⟩ := fin (.miter (some m) cl [] cl) (.mapIter (some i.real) cl #[] cl) ⟨rfl, i, hi, rfl⟩ rfl;refine ⟨_, _, _, ?_, a1, a2, a3⟩;unfold Instr.range;simp only [Sem.run_bind, zas hC ht, hund, Result.andThen_ok, run_getObj_map ho, Sem.run_pure, run_newObj];rfl
   ·cases h
  ·cases h
 ·cases h
end
end Go.Den
namespace Go.Den
section
variable {P : Program} {C : Ctx} {Γ : Ga} {H : AHeap} {w : World}
theorem All2.filter {α β : Type} {R : α → β → Prop} {p : α → Bool} {q : β → Bool} {l : List α} {m : List β} (h : All2 R l m) (hpq : ∀ a b, R a b → p a = q b) : All2 R (l.filter p) (m.filter q) := by
 induction h with
 | nil => exact .nil
 | cons h _ ih =>
  have := hpq _ _ h;simp only [List.filter_cons, this];split
  ·exact .cons h ih
  ·exact ih
theorem All2.all {α β : Type} {R : α → β → Prop} {p : α → Bool} {q : β → Bool} {l : List α} {m : List β} (h : All2 R l m) (hpq : ∀ a b, R a b → p a = q b) : l.all p = m.all q := by
 induction h with
 | nil => rfl
 | cons h _ ih => simp only [List.all_cons, hpq _ _ h, ih]
theorem All2.isEmpty {α β : Type} {R : α → β → Prop} {l : List α} {m : List β} (h : All2 R l m) : l.isEmpty = m.isEmpty := by cases h <;> rfl
theorem All2.get' {α β : Type} {R : α → β → Prop} {l : List α} {m : List β} (h : All2 R l m) : ∀ {i : Nat} {b : β}, m[i]? = some b → ∃ a, l[i]? = some a ∧ R a b := by
 induction h with
 | nil => intro i b h; simp at h
 | cons h _ ih =>
  intro i b hi
  cases i with
  | zero => simp at hi; subst hi; exact ⟨_, rfl, h⟩
  | succ i => simp at hi; simpa using ih hi
theorem tuple3 {a b c a' b' c' : Value} (h : VR Γ a a') (k : VR Γ b b') (l : VR Γ c c') : VR Γ (.tuple #[a, b, c]) (.tuple #[a', b', c']) := .tuple (.cons h (.cons k (.cons l .nil)))
theorem tuple1 {a a' : Value} (h : VR Γ a a') : VR Γ (.tuple #[a]) (.tuple #[a']) := .tuple (.cons h .nil)
theorem choose_lt (n : Nat) (hn : 0 < n) (w : World) : ∃ k w', (choose (.mapNext n)).run P w = .ok k w' ∧ k < n ∧ w'.heap = w.heap ∧ w'.os = w.os ∧ w'.tape = w.tape ∧ w'.output = w.output := by
 rw [run_choose];split
 ·exact ⟨0, w, rfl, hn, rfl, rfl, rfl, rfl⟩
 ·exact ⟨_, _, rfl, by show w.tape w.drawn _ % n < n; exact Nat.mod_lt _ hn, rfl, rfl, rfl, rfl⟩
theorem zkm (hr : Rel Γ H w) {it it' : Value} {s : Bool} {t : TypeId} {outs : List (Value × AHeap)} (h : nextA H it s = some outs) (hi : VR Γ it it') :
  ∃ v H' v' w', (v, H') ∈ outs ∧ (Instr.next it' s t).run P w = .ok v' w' ∧ Rel Γ H' w' ∧ Adv Γ H w Γ H' w' ∧ VR Γ v v' := by
 unfold nextA at h;split at h
 ·rename_i r
  cases hi with
  | ptr hg =>
   rename_i i;split at h
   ·-- a string
    rename_i str pos hb;obtain ⟨i2, o, hi', ho, hobj⟩ := hr.blk _ _ hb;rw [hg] at hi'; cases hi';obtain ⟨hsh, rfl⟩ := hobj;have hgo : (getObj i.real).run P w = .ok (.stringIter str pos) w := by simp [getObj, Sem.run, ho]
    split at h
    ·cases h
    ·rename_i hown;have hown' : own r = true := by simpa using hown
     split at h
     ·rename_i hpos;cases h;obtain ⟨a, b⟩ := hr.put (x' := .siter str (pos + (Utf8.decode str pos).2)) hb rfl hown' hg (zbM (.stringIter str (pos + (Utf8.decode str pos).2)) ho) ⟨hsh, rfl⟩;refine ⟨_, _, _, _, List.mem_singleton.2 rfl, ?_, a, b, tuple3 (.bool true) (.int _ _) (.int _ _)⟩;unfold Instr.next;simp only [hsh, Nat.add_zero, Sem.run_bind, hgo, Result.andThen_ok, hpos, if_true];simp only [zcQ _ ho (fun _ _ _ h => by cases h), Result.andThen_ok, Sem.run_pure, goInt]
     ·rename_i hpos;cases h;refine ⟨_, _, _, w, List.mem_singleton.2 rfl, ?_, hr, .refl _ _ _, tuple1 (.bool false)⟩;unfold Instr.next;simp only [hsh, Nat.add_zero, Sem.run_bind, hgo, Result.andThen_ok, hpos, if_false, Sem.run_pure]
   ·-- a nil map
    rename_i since seen stepped hb;obtain ⟨i2, o, hi', ho, hobj⟩ := hr.blk _ _ hb;rw [hg] at hi'; cases hi';obtain ⟨hsh, rfl⟩ := hobj;have hgo : (getObj i.real).run P w = .ok (.mapIter none since ⟨seen⟩ stepped) w := by simp [getObj, Sem.run, ho]
    cases h;refine ⟨_, _, _, w, List.mem_singleton.2 rfl, ?_, hr, .refl _ _ _, tuple1 (.bool false)⟩;unfold Instr.next;simp only [hsh, Nat.add_zero, Sem.run_bind, hgo, Result.andThen_ok, Sem.run_pure]
   ·-- a map
    rename_i m since seen last hb;obtain ⟨i2, o, hi', ho, hobj⟩ := hr.blk _ _ hb;rw [hg] at hi'; cases hi';obtain ⟨hsh, j, hj, rfl⟩ := hobj;have hgo : (getObj i.real).run P w = .ok (.mapIter (some j.real) since ⟨seen⟩ last) w := by simp [getObj, Sem.run, ho]
    split at h
    ·rename_i es cl ro hbm;obtain ⟨j2, es', hj', hom, hall⟩ := hr.mapBlk hbm;rw [hj] at hj'; cases hj';split at h
     ·cases h
     ·rename_i hcond;simp only [Bool.or_eq_true, not_or, Bool.not_eq_true, Bool.not_eq_false'] at hcond;obtain ⟨hown, hgone⟩ := hcond;have hown' : own r = true := by simpa using hown
      have hgone' : (!(⟨seen⟩ : Array Nat).isEmpty && !es'.isEmpty && es'.all (fun e => decide (e.born ≥ last))) = false := by
       have e1 : es'.all (fun e => decide (e.born ≥ last)) = es.all (fun e => decide (e.born ≥ last)) := by
        rw [← Array.all_toList];exact (hall.all (fun a b hab => by rw [hab.born])).symm
       have e2 : es'.isEmpty = es.isEmpty := by
        have := hall.isEmpty;rw [this]; simp
       have e3 : (⟨seen⟩ : Array Nat).isEmpty = seen.isEmpty := by
        cases seen <;> simp
       rw [e1, e2, e3]; simpa using hgone
      -- the entries that are left
      have hleft := hall.filter (p := fun e => !seen.contains e.born) (q := fun e => !seen.contains e.born) (fun a b hab => by rw [hab.born]);have hold := hleft.filter (p := fun e => decide (e.born < since)) (q := fun e => decide (e.born < since)) (fun a b hab => by rw [hab.born]);have hnew := hleft.filter (p := fun e => decide (e.born ≥ since)) (q := fun e => decide (e.born ≥ since)) (fun a b hab => by rw [hab.born]);simp only [Option.some.injEq] at h
      -- the model's candidates, as lists
      generalize hO : (List.filter (fun e => decide (e.born < since)) (List.filter (fun e => !seen.contains e.born) es'.toList)) = O' at hold
      generalize hN : (List.filter (fun e => decide (e.born ≥ since)) (List.filter (fun e => !seen.contains e.born) es'.toList)) = N' at hnew
      generalize (List.filter (fun e => decide (e.born < since)) (List.filter (fun e => !seen.contains e.born) es)) = O at hold h
      generalize (List.filter (fun e => decide (e.born ≥ since)) (List.filter (fun e => !seen.contains e.born) es)) = N at hnew h
      let cands : Array (Option MapEntry) := ⟨(if O'.isEmpty then [none] else []) ++ (O' ++ N').map some⟩
      have hrun : ∀ res w2, ((do
         match cands[← choose (.mapNext cands.size)]? with
         | some (some e) =>
          setObj i.real (.mapIter (some j.real) since ((⟨seen⟩ : Array Nat).push e.born) cl)
          pure (.tuple #[.bool true, e.key, e.val])
         | some none => pure (.tuple #[.bool false])
         | none => stuck "Next: no such candidate" : Sem Value).run P w = .ok res w2) →
        (Instr.next (.pointer (some ⟨i.real, i.shift + 0, none⟩)) false t).run P w = .ok res w2 := by
       intro res w2 hres;rw [← hres];unfold Instr.next;simp only [hsh, Nat.add_zero, Sem.run_bind, hgo, Result.andThen_ok, run_getObj_map hom, hgone', Bool.false_eq_true, if_false]
       have hc : ((if (Array.filter (fun x => decide (x.born < since)) (Array.filter (fun e => !(⟨seen⟩ : Array Nat).contains e.born) es')).isEmpty = true then #[none] else #[]) ++
         Array.map some (Array.filter (fun x => decide (x.born < since)) (Array.filter (fun e => !(⟨seen⟩ : Array Nat).contains e.born) es') ++
          Array.filter (fun x => decide (x.born ≥ since)) (Array.filter (fun e => !(⟨seen⟩ : Array Nat).contains e.born) es'))) = cands := by
        have hA : ∀ p : MapEntry → Bool, (Array.filter p (Array.filter (fun e => !(⟨seen⟩ : Array Nat).contains e.born) es')) = ⟨List.filter p (List.filter (fun e => !seen.contains e.born) es'.toList)⟩ := by
         intro p;apply Array.toList_inj.1;rw [Array.toList_filter, Array.toList_filter];have hcs : ∀ b, (⟨seen⟩ : Array Nat).contains b = seen.contains b := fun b => List.contains_toArray
         simp only [hcs]
        rw [hA, hA, hO, hN];apply Array.toList_inj.1;show _ = (if O'.isEmpty then [none] else []) ++ (O' ++ N').map some;cases O' <;> simp
       rw [hc];rfl
      have hsize : 0 < cands.size := by
       show 0 < ((if O'.isEmpty then [none] else []) ++ (O' ++ N').map some).length;cases O' <;> simp
      obtain ⟨k, w1, c1, c2, c3, c4, c5, c6⟩ := choose_lt (P := P) cands.size hsize w;have hr1 : Rel Γ H w1 := (zk5 c3 c4 c5 c6 hr).1;have ha1 : Adv Γ H w Γ H w1 := (zk5 c3 c4 c5 c6 hr).2
      have hck : ∃ x, cands[k]? = some x ∧ (x = none ∧ O'.isEmpty = true ∨ ∃ e', x = some e' ∧ e' ∈ O' ++ N') := by
       have hlt : k < ((if O'.isEmpty then [none] else []) ++ (O' ++ N').map some).length := c2;refine ⟨_, Array.getElem?_eq_getElem c2, ?_⟩;have hmem : cands[k] ∈ (if O'.isEmpty then [none] else []) ++ (O' ++ N').map some := List.getElem_mem hlt;rcases List.mem_append.1 hmem with hm | hm
       ·left;split at hm
        ·rename_i he;exact ⟨by simpa using hm, he⟩
        ·simp at hm
       ·right;obtain ⟨e', he', heq⟩ := List.mem_map.1 hm;exact ⟨e', heq.symm, he'⟩
      obtain ⟨x, hx, hx2⟩ := hck;rcases hx2 with ⟨rfl, hemp⟩ | ⟨e', rfl, hmem⟩
      ·refine ⟨.tuple #[.bool false], H, .tuple #[.bool false], w1, ?_, hrun _ _ ?_, hr1, ha1, tuple1 (.bool false)⟩
       ·rw [← h];have : O.isEmpty = true := by rw [hold.isEmpty]; exact hemp
        rw [if_pos this]; simp
       ·simp only [Sem.run_bind, c1, Result.andThen_ok, hx, Sem.run_pure]
      ·obtain ⟨q, hq⟩ := List.getElem?_of_mem hmem;obtain ⟨e, he, hent⟩ := (hold.append hnew).get' hq;have ho1 : w1.heap[i.real]? = some (.mapIter (some j.real) since ⟨seen⟩ last) := by rw [c3]; exact ho
       obtain ⟨a, b⟩ := hr1.put (x' := .miter (some m) since (seen ++ [e.born]) cl) hb rfl hown' hg (zbM (.mapIter (some j.real) since ((⟨seen⟩ : Array Nat).push e'.born) cl) ho1)
        ⟨hsh, j, hj, by
         congr 1
         apply Array.toList_inj.1;rw [Array.toList_push, hent.born]⟩
       refine ⟨_, _, _, _, ?_, hrun _ _ ?_, a, ha1.trans b, tuple3 (.bool true) hent.key hent.val⟩
       ·rw [← h];refine List.mem_append_right _ (List.mem_map.2 ⟨e, List.mem_of_getElem? he, rfl⟩)
       ·simp only [Sem.run_bind, c1, Result.andThen_ok, hx, zcQ _ ho1 (fun _ _ _ h => by cases h), Sem.run_pure]
    ·cases h
   ·cases h
 ·cases h
theorem zjG (hr : Rel Γ H w) {it it' v : Value} (h : entryA H it = some v) (hi : VR Γ it it') : ∃ v', (Instr.entry it').run P w = .ok v' w ∧ VR Γ v v' := by
 unfold entryA at h;split at h
 ·rename_i r
  cases hi with
  | ptr hg =>
   rename_i i;split at h
   ·rename_i m since seen stepped hb;obtain ⟨i2, o, hi', ho, hobj⟩ := hr.blk _ _ hb;rw [hg] at hi'; cases hi';obtain ⟨hsh, j, hj, rfl⟩ := hobj;have hgo : (getObj i.real).run P w = .ok (.mapIter (some j.real) since ⟨seen⟩ stepped) w := by simp [getObj, Sem.run, ho]
    split at h
    ·rename_i stamp es cl ro hst hbm;obtain ⟨j2, es', hj', hom, hall⟩ := hr.mapBlk hbm;rw [hj] at hj'; cases hj';split at h
     ·cases h
     ·rename_i hcl;split at h
      ·rename_i e hf;cases h
       have find : ∀ (l : List MapEntry) (l' : List MapEntry), All2 (EntR Γ) l l' → l.find? (fun e => e.born == stamp) = some e → ∃ e', l'.find? (fun e => e.born == stamp) = some e' ∧ EntR Γ e e' := by
        intro l l' hl
        induction hl with
        | nil => intro h; simp at h
        | cons h _ ih =>
         intro hfe;rw [List.find?_cons] at hfe;rw [List.find?_cons, h.born];split at hfe
         ·rename_i hb; cases hfe; exact ⟨_, rfl, h⟩
         ·exact ih hfe
       obtain ⟨e', f1, f2⟩ := find _ _ hall hf;refine ⟨_, ?_, tuple2 f2.key f2.val⟩;unfold Instr.entry
       have hback : (⟨seen⟩ : Array Nat).back? = some stamp := by
        have := List.back?_toArray (l := seen);rw [← hst]; exact this
       have hcl' : (cl != stepped) = false := by simpa using hcl
       have hfind : es'.find? (fun e => e.born == stamp) = some e' := by
        cases es' with | mk l => simpa using f1
       simp only [hsh, Nat.add_zero, Sem.run_bind, hgo, Result.andThen_ok, hback, run_getObj_map hom, hcl', Bool.false_eq_true, if_false, hfind, Sem.run_pure]
      ·cases h
    ·cases h
   ·cases h
 ·cases h
end
end Go.Den
namespace Go.Den
section
variable {P : Program} {C : Ctx} {Γ : Ga} {H : AHeap} {w : World}
theorem zak {env : Env} {n : Nat} {a : Act} (he : EnvR Γ env n a.tmps) {x : Operand} {v : Value} (h : evalA env x = some v) : VR Γ v (a.eval x) := by
 unfold evalA at h;split at h
 ·rename_i t;exact he.val t _ h
 ·split at h
  ·rename_i hc; cases h; exact .const hc
  ·cases h
 ·rename_i g;split at h
  ·rename_i hg;cases h;obtain ⟨i, h1, h2, h3, _⟩ := he.glob g hg;have := VR.ptr (Γ := Γ) (o := 0) h1;rw [h2, h3] at this; exact this
  ·cases h
 ·cases h;exact .func .nil .nil
theorem zcE {env : Env} {n : Nat} {a : Act} (he : EnvR Γ env n a.tmps) : ∀ {l : List Operand} {vs : List Value}, evalL env l = some vs → All2 (VR Γ) vs (l.map a.eval) := by
 intro l
 induction l with
 | nil => intro vs h; simp only [evalL] at h; cases h; exact .nil
 | cons x l ih =>
  intro vs h;simp only [evalL] at h;split at h
  ·rename_i v hv;split at h
   ·rename_i r hr;cases h;exact .cons (zak he hv) (ih hr)
   ·cases h
  ·cases h
theorem zfQ {env : Env} {n : Nat} {a : Act} (he : EnvR Γ env n a.tmps) : ∀ {l : List (Nat × Operand)} {vs : List (Nat × Value)}, evalPs env l = some vs →
  All2 (fun a b => a.1 = b.1 ∧ VR Γ a.2 b.2) vs (l.map fun p => (p.1, a.eval p.2)) := by
 intro l
 induction l with
 | nil => intro vs h; simp only [evalPs] at h; cases h; exact .nil
 | cons x l ih =>
  intro vs h;obtain ⟨i, x⟩ := x;simp only [evalPs] at h;split at h
  ·rename_i v hv;split at h
   ·rename_i r hr;cases h;exact .cons ⟨rfl, zak he hv⟩ (ih hr)
   ·cases h
  ·cases h
theorem zdo {env : Env} {n : Nat} {a : Act} (he : EnvR Γ env n a.tmps) {x : Option Operand} {v : Option Value} (h : opA.evalOpt env x = some v) : OptR Γ v (x.map a.eval) := by
 unfold opA.evalOpt at h;split at h
 ·cases h; trivial
 ·split at h
  ·rename_i v' hv; cases h;exact zak he hv
  ·cases h
def Done (r : Result Next) (v' : Value) (w' : World) : Prop := r = .ok (.value v') w' ∨ (r = .ok .skip w' ∧ v' = undef)
def OpPost (Γ : Ga) (H : AHeap) (w : World) (outs : List (Value × AHeap)) (r : Result Next) : Prop :=
 ∃ v H' v' w' Γ', (v, H') ∈ outs ∧ Done r v' w' ∧ Rel Γ' H' w' ∧ Adv Γ H w Γ' H' w' ∧ VR Γ' v v'
theorem zbL (s : Sem Value) (v' : Value) (w w' : World) (h : s.run P w = .ok v' w') : (do pure (.value (← s)) : Sem Next).run P w = .ok (.value v') w' := by
 simp only [Sem.run_bind, h, Result.andThen_ok, Sem.run_pure]
theorem zp5 (s : Sem Unit) (w w' : World) (h : s.run P w = .ok () w') : (do s; pure .skip : Sem Next).run P w = .ok .skip w' := by
 simp only [Sem.run_bind, h, Result.andThen_ok, Sem.run_pure]
theorem zaX (hr : Rel Γ H w) {o : Option Value} {outs : List (Value × AHeap)} (h : oneO o H = some outs) {r : Result Next} (hv : ∀ v, o = some v → ∃ v', r = .ok (.value v') w ∧ VR Γ v v') : OpPost Γ H w outs r := by
 unfold oneO at h;split at h
 ·rename_i v;cases h;obtain ⟨v', h1, h2⟩ := hv v rfl;exact ⟨v, H, v', w, Γ, List.mem_singleton.2 rfl, .inl h1, hr, .refl _ _ _, h2⟩
 ·cases h
theorem zcm {o : Option (Value × AHeap)} {outs : List (Value × AHeap)} (h : o.map (fun r => [r]) = some outs) {r : Result Next}
  (hv : ∀ v H', o = some (v, H') → ∃ Γ' v' w', r = .ok (.value v') w' ∧ Rel Γ' H' w' ∧ Adv Γ H w Γ' H' w' ∧ VR Γ' v v') : OpPost Γ H w outs r := by
 cases o with
 | none => simp at h
 | some x =>
  obtain ⟨v, H'⟩ := x;simp only [Option.map_some, Option.some.injEq] at h;subst h;obtain ⟨Γ', v', w', h1, h2, h3, h4⟩ := hv v H' rfl;exact ⟨v, H', v', w', Γ', List.mem_singleton.2 rfl, .inl h1, h2, h3, h4⟩
theorem zgb {o : Option AHeap} {outs : List (Value × AHeap)} (h : o.map (fun h' => [(undefV, h')]) = some outs) {r : Result Next}
  (hv : ∀ H', o = some H' → ∃ w', r = .ok .skip w' ∧ Rel Γ H' w' ∧ Adv Γ H w Γ H' w') : OpPost Γ H w outs r := by
 cases o with
 | none => simp at h
 | some H' =>
  simp only [Option.map_some, Option.some.injEq] at h;subst h;obtain ⟨w', h1, h2, h3⟩ := hv H' rfl;exact ⟨undefV, H', undef, w', Γ, List.mem_singleton.2 rfl, .inr ⟨h1, rfl⟩, h2, h3, .undef⟩
theorem zpF (hC : CtxOk P C) (hr : Rel Γ H w) {b : Builtin} {tys : List TypeId} {ty : TypeId} {cs : Array Bool} {args args' : List Value} {outs : List (Value × AHeap)}
  (h : (biA C H b tys args).map (fun r => [r]) = some outs) (hv : All2 (VR Γ) args args') : OpPost Γ H w outs ((builtin b ⟨tys⟩ ty cs ⟨args'⟩).run P w) := by
 refine zcm h ?_;intro v H' hb;unfold biA at hb;split at hb
 ·cases hv with
  | cons hx _ =>
   simp only [Option.map_eq_some_iff] at hb;obtain ⟨v', hb, heq⟩ := hb;cases heq;obtain ⟨l1, l2⟩ := zmX (P := P) (ty := ty) hC hr hb hx;exact ⟨Γ, v, w, zbL _ _ _ _ l1, hr, .refl _ _ _, l2⟩
 ·cases hv with
  | cons hx _ =>
   simp only [Option.map_eq_some_iff] at hb;obtain ⟨v', hb, heq⟩ := hb;cases heq;obtain ⟨l1, l2⟩ := zna (P := P) (ty := ty) hC hr hb hx;exact ⟨Γ, v, w, zbL _ _ _ _ l1, hr, .refl _ _ _, l2⟩
 ·cases hv with
  | cons hs hv => cases hv with
   | cons hx _ =>
    obtain ⟨Γ', v', w', a1, a2, a3, a4⟩ := ziU (P := P) (ty := ty) hC hr hb hs hx;exact ⟨Γ', v', w', zbL _ _ _ _ a1, a2, a3, a4⟩
 ·cases hv with
  | cons hs hv => cases hv with
   | cons hx _ =>
    obtain ⟨Γ', v', w', a1, a2, a3, a4⟩ := zkE (P := P) (ty := ty) hC hr hb hs hx;exact ⟨Γ', v', w', zbL _ _ _ _ a1, a2, a3, a4⟩
 ·cases hv with
  | cons hx _ =>
   obtain ⟨Γ', v', w', a1, a2, a3, a4⟩ := zjU (P := P) (ty := ty) hC hr hb hx;exact ⟨Γ', v', w', zbL _ _ _ _ a1, a2, a3, a4⟩
 ·simp only [Option.map_eq_some_iff] at hb;obtain ⟨v', hb, heq⟩ := hb;cases heq;obtain ⟨l1, l2⟩ := zoM (P := P) hb hv ⟨tys⟩ ty w;exact ⟨Γ, v, w, zbL _ _ _ _ l1, hr, .refl _ _ _, l2⟩
 ·simp only [Option.map_eq_some_iff] at hb;obtain ⟨v', hb, heq⟩ := hb;cases heq;obtain ⟨l1, l2⟩ := zoL (P := P) hb hv ⟨tys⟩ ty w;exact ⟨Γ, v, w, zbL _ _ _ _ l1, hr, .refl _ _ _, l2⟩
 ·cases hb
theorem zfL (hr : Rel Γ H w) : ∃ Γ' w', (do pure (Value.map (some (← newObj (.map #[] 0)))) : Sem Value).run P w = .ok (.map (some w.heap.size)) w' ∧ Rel Γ' (H.add (.map [] 0 false)) w' ∧
  Adv Γ H w Γ' (H.add (.map [] 0 false)) w' ∧ VR Γ' (.map (some H.fresh)) (.map (some w.heap.size)) := by
 obtain ⟨a1, a2⟩ := hr.add (.map [] 0 false) (.map #[] 0) { real := w.heap.size, rsize := 0, shift := 0, size := 0, esz := 0, slack := false } rfl ⟨#[], rfl, .nil⟩;refine ⟨_, _, ?_, a1, a2, VR.map (i := { real := w.heap.size, rsize := 0, shift := 0, size := 0, esz := 0, slack := false }) (by simp [Ga.upd])⟩;simp only [Sem.run_bind, run_newObj, Result.andThen_ok, Sem.run_pure];rfl
theorem ziu (l : Array Operand) (f : Operand → Value) : l.map f = ⟨l.toList.map f⟩ := by
 apply Array.toList_inj.1; simp
theorem ze7 : ∀ {l : List Value} {bs : List UInt8}, bytesOfL l = some bs → ∃ ns : List Int, l = ns.map (Value.int .u8) ∧ bs = ns.map fun n => UInt8.ofNat n.toNat
 | [], bs, h => by cases h; exact ⟨[], rfl, rfl⟩
 | v :: r, bs, h => by
  unfold bytesOfL at h;split at h
  ·rename_i e; cases e
  ·rename_i n r' e;cases e;split at h
   ·rename_i l hl;cases h;obtain ⟨ns, h1, h2⟩ := ze7 hl;exact ⟨n :: ns, by rw [h1]; rfl, by rw [h2]; rfl⟩
   ·cases h
  ·cases h
theorem zjj : ∀ (ns : List Int) (s : ByteArray), (ns.foldl (fun r n => r.push (UInt8.ofNat n.toNat)) s) = ⟨⟨s.data.toList ++ ns.map fun n => UInt8.ofNat n.toNat⟩⟩
 | [], s => by simp
 | n :: ns, s => by
  rw [List.foldl_cons, zjj ns];simp [ByteArray.push]
theorem zkF {P : Program} {C : Ctx} {Γ : Ga} {H : AHeap} {w : World} (hC : CtxOk P C) (hr : Rel Γ H w) {s d : TypeId} {x x' v : Value} (h : convB C H s d x = some v) (hx : VR Γ x x') :
  (convert s d x').run P w = .ok v w ∧ VR Γ v v := by
 unfold convB at h;split at h
 ·rename_i si di hs hd;split at h
  ·rename_i e hse hde;split at h
   ·rename_i ei hei;obtain ⟨_, _, us, _⟩ := zbN (hC.ty _ _ hs);obtain ⟨_, _, ud, _⟩ := zbN (hC.ty _ _ hd);obtain ⟨_, _, ue, _⟩ := zbN (hC.ty _ _ hei);rw [hse] at us; rw [hde] at ud;split at h
    ·rename_i hu;cases h; cases hx;rw [hu] at ue;exact ⟨by rw [run_convert_bytes_string w s d e _ _ _ us ue ud]; rfl, .string _⟩
    ·rename_i b o n c hu;rw [hu] at ue;split at h
     ·rename_i cs z sl ro hb;split at h
      ·rename_i l hl;split at h
       ·rename_i bs hbs;cases h;obtain ⟨ns, rfl, rfl⟩ := ze7 hbs;obtain ⟨j, rc, et, fz, hj, hw, h1, h2, h3, h4, h5, h6, h7, h8⟩ := hr.cells hb
        cases hx with
        | slice hj' hc =>
         rw [hj] at hj'; cases hj';obtain ⟨hle, hall⟩ := zex hl h4 h8;have hflat : (ns.map (Value.int .u8)).all Den.flatC = true := by simp [List.all_eq_true, Den.flatC]
         have heq := VR.flatL hall hflat;refine ⟨?_, .string _⟩;rw [run_convert_bytes_string w s d e _ _ _ us ue ud, run_bytesToString w _ _ _ ns ?_, zjj]
         ·simp
         ·rcases hle with h0 | hle
          ·have : ns = [] := by
            have := (zb3 hl).1;rw [h0] at this;simpa using this
           subst this;rw [h0]; simp [loadCells, loadCellsFrom]
          ·rw [run_loadCells P hw hle, heq]
       ·cases h
      ·cases h
     ·cases h
    ·cases h
   ·cases h
  ·cases h
 ·cases h
theorem zoz (hC : CtxOk P C) (hr : Rel Γ H w) {env : Env} {n : Nat} {a : Act} (he : EnvR Γ env n a.tmps) {o : Oper} {outs : List (Value × AHeap)} (h : opA P C env o.op H = some outs) :
  OpPost Γ H w outs ((execOp a.eval o).run P w) := by
 obtain ⟨dst, op, type, pos, after, guard⟩ := o;simp only at h;unfold opA at h;unfold execOp;split at h
 ·-- move
  exact zaX hr h fun v hv => ⟨_, rfl, zak he hv⟩
 ·exact zaX hr h fun v hv => ⟨_, rfl, zak he hv⟩
 ·-- pick
  rename_i c x y;split at h
  ·rename_i t ht;have hb := zak he ht;refine zaX hr h fun v hv => ?_
   have hc : (asBool (a.eval c)).run P w = .ok t w := by cases hq : a.eval c <;> rw [hq] at hb <;> cases hb; rfl
   cases t
   ·exact ⟨_, by simp only [Sem.run_bind, hc, Result.andThen_ok]; rfl, zak he hv⟩
   ·exact ⟨_, by simp only [Sem.run_bind, hc, Result.andThen_ok]; rfl, zak he hv⟩
  ·cases h
 ·-- alloc
  refine zcm h fun v H' hv => ?_
  obtain ⟨Γ', v', w', a1, a2, a3, a4⟩ := zjX (P := P) hC hr hv;exact ⟨Γ', v', w', zbL _ _ _ _ a1, a2, a3, a4⟩
 ·-- box
  rename_i t x;split at h
  ·rename_i v ti hx ht;refine zcm h fun v2 H' hv => ?_
   obtain ⟨Γ', v', w', a1, rfl, a2, a3, a4⟩ := zhI (P := P) hr t hv (zak he hx).cells;refine ⟨Γ', _, w', zbL _ _ _ _ ?_, a2, a3, a4⟩;unfold Instr.box newVar;have : newRow t (a.eval x).cells = newRow t ⟨(a.eval x).cells.toList⟩ := rfl;simp only [Sem.run_bind, this, a1, Result.andThen_ok, Sem.run_pure]
  ·cases h
 ·-- build
  rename_i t ps;split at h
  ·rename_i l hl;refine zaX hr h fun v hv => ?_
   obtain ⟨v', b1, b2⟩ := zjW (P := P) hC hv (zfQ he hl) w;refine ⟨v', zbL _ _ _ _ ?_, b2⟩;have : (ps.map fun (i, x) => (i, a.eval x)) = ⟨ps.toList.map fun p => (p.1, a.eval p.2)⟩ := by apply Array.toList_inj.1; simp
   rw [this]; exact b1
  ·cases h
 ·-- buildSlice
  rename_i t m ps;split at h
  ·rename_i l hl;refine zcm h fun v H' hv => ?_
   obtain ⟨Γ', v', w', a1, a2, a3, a4⟩ := zfD (P := P) hC hr hv (zfQ he hl);refine ⟨Γ', v', w', zbL _ _ _ _ ?_, a2, a3, a4⟩;have : (ps.map fun (i, x) => (i, a.eval x)) = ⟨ps.toList.map fun p => (p.1, a.eval p.2)⟩ := by apply Array.toList_inj.1; simp
   rw [this]; exact a1
  ·cases h
 ·-- load
  split at h
  ·rename_i p hp;refine zaX hr h fun v hv => ?_
   obtain ⟨v', b1, b2⟩ := zgU (P := P) hC hr hv (zak he hp);exact ⟨v', zbL _ _ _ _ b1, b2⟩
  ·cases h
 ·-- store
  split at h
  ·rename_i p v hp hv;refine zgb h fun H' hH => ?_
   obtain ⟨w', b1, b2, b3⟩ := zi2 (P := P) hC hr hH (zak he hp) (zak he hv);exact ⟨w', zp5 _ _ _ b1, b2, b3⟩
  ·cases h
 ·-- nilCheck
  rename_i x;split at h
  ·rename_i ad hx;cases h;have hv := zak he hx;refine ⟨_, H, a.eval x, w, Γ, List.mem_singleton.2 rfl, .inl ?_, hr, .refl _ _ _, hv⟩;cases hq : a.eval x <;> rw [hq] at hv <;> cases hv <;> simp [hq]
  ·rename_i f p q hx;cases h;have hv := zak he hx;refine ⟨_, H, a.eval x, w, Γ, List.mem_singleton.2 rfl, .inl ?_, hr, .refl _ _ _, hv⟩;cases hq : a.eval x <;> rw [hq] at hv <;> cases hv <;> simp [hq]
  ·rename_i f p q hx;cases h;have hv := zak he hx;refine ⟨_, H, a.eval x, w, Γ, List.mem_singleton.2 rfl, .inl ?_, hr, .refl _ _ _, hv⟩;cases hq : a.eval x <;> rw [hq] at hv <;> cases hv <;> simp [hq]
  ·cases h
 ·-- binOp
  rename_i op t x y ty;split at h
  ·rename_i p q hp hq;refine zaX hr h fun v hv => ?_
   obtain ⟨b1, b2, b3⟩ := znf (P := P) hC hv (zak he hp) (zak he hq) w;refine ⟨v, zbL _ _ _ _ ?_, b2⟩;simp only [Sem.run_bind, b3 x y, Result.andThen_ok, b1]
  ·cases h
 ·-- unOp
  split at h
  ·rename_i v hv;refine zaX hr h fun v2 hv2 => ?_
   obtain ⟨b1, b2⟩ := znI (P := P) hv2 (zak he hv) w;exact ⟨v2, zbL _ _ _ _ b1, b2⟩
  ·cases h
 ·-- convert
  split at h
  ·rename_i v hv;refine zaX hr h fun v2 hv2 => ?_
   split at hv2
   ·rename_i u hu;cases hv2;obtain ⟨b1, b2⟩ := zkG (P := P) hC hu (zak he hv) w;exact ⟨_, zbL _ _ _ _ b1, b2⟩
   ·obtain ⟨b1, b2⟩ := zkF (P := P) hC hr hv2 (zak he hv);exact ⟨_, zbL _ _ _ _ b1, b2⟩
  ·cases h
 ·-- makeFunc
  rename_i fn p q;split at h
  ·rename_i g x y hx hy;refine zaX hr h fun v hv => ?_
   cases hv;refine ⟨_, rfl, ?_⟩;simp only [ziu];exact .func (zcE he hx) (zcE he hy)
  ·cases h
 ·-- makeMap
  refine zcm h fun v H' hv => ?_
  cases hv;obtain ⟨Γ', w', a1, a2, a3, a4⟩ := zfL (P := P) hr;refine ⟨Γ', _, w', zbL _ _ _ _ ?_, a2, a3, a4⟩;unfold Instr.makeMap;exact a1
 ·rename_i t nn;split at h
  ·rename_i q li kv hq hm;refine zcm h fun v H' hv => ?_
   cases hv;obtain ⟨ti, ht, hund⟩ := zco hm;obtain ⟨Γ', w', a1, a2, a3, a4⟩ := zfL (P := P) hr;refine ⟨Γ', _, w', zbL _ _ _ _ ?_, a2, a3, a4⟩;have hx := zak he hq;unfold Instr.makeMap;simp only [Option.map_some, Sem.run_bind, zas hC ht, Result.andThen_ok, hund];cases hz : a.eval nn <;> rw [hz] at hx <;> cases hx;simp only [asInt, asIntOf, Sem.run_bind, Sem.run_pure, Result.andThen_ok] at a1 ⊢;exact a1
  ·cases h
 ·-- makeSlice
  split at h
  ·rename_i p q hp hq;refine zcm h fun v H' hv => ?_
   obtain ⟨Γ', v', w', a1, a2, a3, a4⟩ := zfV (P := P) hC hr hv (zak he hp) (zak he hq);exact ⟨Γ', v', w', zbL _ _ _ _ a1, a2, a3, a4⟩
  ·cases h
 ·-- slice
  split at h
  ·rename_i v p q r hv hp hq hr';refine zaX hr h fun v2 hv2 => ?_
   obtain ⟨v', b1, b2⟩ := zi5 (P := P) hC hr hv2 (zak he hv) (zdo he hp) (zdo he hq) (zdo he hr');exact ⟨v', zbL _ _ _ _ b1, b2⟩
  ·cases h
 ·-- fieldAddr
  split at h
  ·rename_i v hv;refine zaX hr h fun v2 hv2 => ?_
   obtain ⟨v', b1, b2⟩ := zfY (P := P) hC hv2 (zak he hv) w;exact ⟨v', zbL _ _ _ _ b1, b2⟩
  ·cases h
 ·-- field
  split at h
  ·rename_i v hv;refine zaX hr h fun v2 hv2 => ?_
   obtain ⟨v', b1, b2⟩ := zjD (P := P) hC hv2 (zak he hv) w;exact ⟨v', zbL _ _ _ _ b1, b2⟩
  ·cases h
 ·-- indexAddr
  split at h
  ·rename_i v j hv hj;refine zaX hr h fun v2 hv2 => ?_
   obtain ⟨v', b1, b2⟩ := zfX (P := P) hC hv2 (zak he hv) (zak he hj) w;exact ⟨v', zbL _ _ _ _ b1, b2⟩
  ·cases h
 ·-- index
  split at h
  ·rename_i v j hv hj;refine zaX hr h fun v2 hv2 => ?_
   obtain ⟨v', b1, b2⟩ := zjz (P := P) hC hv2 (zak he hv) (zak he hj) w;exact ⟨v', zbL _ _ _ _ b1, b2⟩
  ·cases h
 ·-- lookup
  split at h
  ·rename_i v j hv hj;refine zaX hr h fun v2 hv2 => ?_
   obtain ⟨v', b1, b2⟩ := ziv (P := P) hC hr hv2 (zak he hv) (zak he hj);exact ⟨v', zbL _ _ _ _ b1, b2⟩
  ·cases h
 ·-- mapUpdate
  split at h
  ·rename_i v j y hv hj hy;refine zgb h fun H' hH => ?_
   obtain ⟨w', b1, b2, b3⟩ := zdu (P := P) hC hr hH (zak he hv) (zak he hj) (zak he hy);exact ⟨w', zp5 _ _ _ b1, b2, b3⟩
  ·cases h
 ·-- insert
  split at h
  ·rename_i v j y hv hj hy;refine zgb h fun H' hH => ?_
   obtain ⟨w', b1, b2, b3⟩ := zdu (P := P) hC hr hH (zak he hv) (zak he hj) (zak he hy);exact ⟨w', zp5 _ _ _ b1, b2, b3⟩
  ·cases h
 ·-- mapEntry
  split at h
  ·rename_i v j hv hj;refine zcm h fun v2 H' hv2 => ?_
   obtain ⟨v', w', a1, a2, a3, a4⟩ := zgS (P := P) hC hr hv2 (zak he hv) (zak he hj);exact ⟨Γ, v', w', zbL _ _ _ _ a1, a2, a3, a4⟩
  ·cases h
 ·-- entryStore
  rename_i t m s x;split at h
  ·rename_i v j y hv hj hy;refine zgb h fun H' hH => ?_
   obtain ⟨w', b1, b2, b3⟩ := zfw (P := P) (t := t) hr hH (zak he hv) (zak he hj) (zak he hy);exact ⟨w', zp5 _ _ _ b1, b2, b3⟩
  ·cases h
 ·-- range
  split at h
  ·rename_i v hv;refine zcm h fun v2 H' hv2 => ?_
   obtain ⟨Γ', v', w', a1, a2, a3, a4⟩ := zjh (P := P) hC hr hv2 (zak he hv);exact ⟨Γ', v', w', zbL _ _ _ _ a1, a2, a3, a4⟩
  ·cases h
 ·-- next
  split at h
  ·rename_i v hv;obtain ⟨v2, H', v', w', a0, a1, a2, a3, a4⟩ := zkm (P := P) (t := type) hr h (zak he hv);exact ⟨v2, H', v', w', Γ, a0, .inl (zbL _ _ _ _ a1), a2, a3, a4⟩
  ·cases h
 ·-- entry
  split at h
  ·rename_i v hv;refine zaX hr h fun v2 hv2 => ?_
   obtain ⟨v', b1, b2⟩ := zjG (P := P) hr hv2 (zak he hv);exact ⟨v', zbL _ _ _ _ b1, b2⟩
  ·cases h
 ·-- extract
  rename_i t i;split at h
  ·rename_i vs hv;have hx := zak he hv;refine zaX hr h fun v2 hv2 => ?_
   cases hq : a.eval t <;> rw [hq] at hx <;> cases hx;rename_i hl;obtain ⟨v', g1, g2⟩ := hl.get hv2;refine ⟨v', zbL _ _ _ _ ?_, g2⟩;unfold Instr.extract;rw [hq];simp only;rw [← Array.getElem?_toList, g1]; rfl
  ·cases h
 ·-- a builtin
  rename_i c;split at h
  ·rename_i b hb;split at h
   ·rename_i l hl;have := zpF (P := P) (ty := type) (cs := c.args.map fun | .const _ => true | _ => false) hC hr h (zcE he hl);refine Eq.mp ?_ this
    congr 1
    simp only [Sem.run_bind, resolve, hb, Sem.run_pure, Result.andThen_ok, invoke, ziu];rfl
   ·cases h
  ·cases h
 ·cases h
end
end Go.Den
namespace Go.Den
section
variable {F : Fence} {n : Nat} {P : Program} {Q : Exit → Act → World → Prop} {a : Act} {w : World}
def LoopW (F : Fence) (n : Nat) (P : Program) (c : Code) (Q : Exit → Act → World → Prop) (a : Act) (w : World) : Prop :=
 ∀ (b : Frame) (k : List Item) (cs : List Frame), b.roundOf = F.round → F.fn b.fn → F.room (cs.length + 1 + n) →
  ∃ e a' w', Q e a' w' ∧ ArrivesIn (Machine.fenced P F) P (lone (b.atR a (.code c :: .inLoop c :: k)) cs w) b k cs e a' w'
theorem ziV {c : Code} (h : LoopW F n P c Q a w) : (Code.loop c).wpIn F n P Q a w := by
 intro b k cs hro hb hr;obtain ⟨e, a', w', hq, harr⟩ := h b k cs hro hb hr;exact ⟨e, a', w', hq, .of_steps (.one (fenced_calm hb hr rfl) stepR_loop) harr⟩
theorem zqx {c : Code} (h : c.wpIn F n P (Exit.then (LoopW F n P c Q) Q) a w) : LoopW F n P c Q a w := by
 intro b k cs hro hb hr;obtain ⟨e, a₁, w₁, hq, harr⟩ := h b (.inLoop c :: k) cs hro hb hr
 cases e with
 | normal =>
  obtain ⟨e₂, a₂, w₂, hq₂, harr₂⟩ := hq b k cs hro hb hr
  exact ⟨e₂, a₂, w₂, hq₂, .of_steps (StepsIn.trans harr (.one (fenced_calm hb hr rfl) stepR_inLoop)) harr₂⟩
 | exit id => exact ⟨_, a₁, w₁, hq, .pass (x := .inLoop c) rfl (fun _ _ => .inl (by simp)) harr⟩
 | goto l => exact ⟨_, a₁, w₁, hq, .pass (x := .inLoop c) rfl (fun _ _ => .inl (by simp)) harr⟩
 | ret => exact ⟨_, a₁, w₁, hq, .pass (x := .inLoop c) rfl (fun _ _ => .inl (by simp)) harr⟩
 | panic ch => exact ⟨_, a₁, w₁, hq, .pass (x := .inLoop c) rfl (fun _ _ => .inl (by simp)) harr⟩
 | outgrown => exact ⟨_, a₁, w₁, hq, .pass (x := .inLoop c) rfl (fun _ _ => .inl (by simp)) harr⟩
theorem zfp {c : Code} {Q' : Exit → Act → World → Prop} (h : LoopW F n P c Q a w) (hq : ∀ e a w, Q e a w → Q' e a w) : LoopW F n P c Q' a w :=
 fun b k cs hro hb hr => let ⟨e, a', w', q, r⟩ := h b k cs hro hb hr; ⟨e, a', w', hq _ _ _ q, r⟩
end
structure StR (Γ : Ga) (s : St) (nt : Nat) (a : Act) (w : World) : Prop where
 rel : Rel Γ s.heap w
 env : EnvR Γ s.env nt a.tmps
 defs : All2 (fun d (df : Deferred) => ∃ i, Γ d = some i ∧ df.target = .collected i.real) s.defs a.defers
def ExR : Ex → Exit → Prop
 | .normal, .normal => True
 | .exit i, .exit j => i = j
 | .ret, .ret => True
 | _, _ => False
def FenceR (Γ : Ga) : Option Nat → Fence → Prop
 | none, F => F = Fence.wide
 | some l, F => ∃ i, Γ l = some i ∧ F = Fence.wide.inRound i.real
theorem FenceR.mono {Γ Γ' : Ga} (hle : Ga.le Γ Γ') {rd : Option Nat} {F : Fence} (h : FenceR Γ rd F) : FenceR Γ' rd F := by
 cases rd with
 | none => exact h
 | some l => obtain ⟨i, h1, h2⟩ := h; exact ⟨i, hle _ _ h1, h2⟩
theorem FenceR.fn {Γ : Ga} {rd : Option Nat} {F : Fence} (h : FenceR Γ rd F) (f : FuncId) : F.fn f := by
 cases rd with
 | none => cases h; trivial
 | some l => obtain ⟨i, _, rfl⟩ := h; trivial
theorem FenceR.depth {Γ : Ga} {rd : Option Nat} {F : Fence} (h : FenceR Γ rd F) : F.depth = none := by
 cases rd with
 | none => cases h; rfl
 | some l => obtain ⟨i, _, rfl⟩ := h; rfl
theorem FenceR.calls {Γ : Ga} {rd : Option Nat} {F : Fence} (h : FenceR Γ rd F) {P : Program} {f : FuncId} {args : Array Value} {w : World} {R : Ending → World → Prop}
  (hc : CallsIn Fence.wide 0 P f args w R) : CallsIn F 0 P f args w R := by
 cases rd with
 | none => cases h; exact hc
 | some l => obtain ⟨i, _, rfl⟩ := h; exact hc
theorem FenceR.round {Γ : Ga} {rd : Option Nat} {F : Fence} (h : FenceR Γ rd F) {P : Program} {l : Nat} {f : FuncId} {tmps : Array Value} {x y : Code} {w : World} {R : Ending → World → Prop}
  (hc : RoundIn Fence.wide 0 P l f tmps x y w R) : RoundIn F 0 P l f tmps x y w R := by
 cases rd with
 | none => cases h; exact hc
 | some l => obtain ⟨i, _, rfl⟩ := h; exact hc
def PostC (Γ : Ga) (s : St) (nt : Nat) (w : World) (Q : Ex → St → Prop) (e : Exit) (a' : Act) (w' : World) : Prop :=
 ∃ x s' Γ', ExR x e ∧ Q x s' ∧ StR Γ' s' nt a' w' ∧ Adv Γ s.heap w Γ' s'.heap w'
def CodeT (P : Program) (rd : Option Nat) (nt : Nat) (c : Code) (s : St) (Q : Ex → St → Prop) : Prop :=
 ∀ (Γ : Ga) (F : Fence) (a : Act) (w : World), StR Γ s nt a w → FenceR Γ rd F → c.wpIn F 0 P (PostC Γ s nt w Q) a w
def LoopT (P : Program) (rd : Option Nat) (nt : Nat) (c : Code) (s : St) (Q : Ex → St → Prop) : Prop :=
 ∀ (Γ : Ga) (F : Fence) (a : Act) (w : World), StR Γ s nt a w → FenceR Γ rd F → LoopW F 0 P c (PostC Γ s nt w Q) a w
def PostV (Γ : Ga) (H : AHeap) (w : World) (Q : Value → AHeap → Prop) (e : Ending) (w' : World) : Prop :=
 ∃ v' v H' Γ', e = .returned v' ∧ Q v H' ∧ Rel Γ' H' w' ∧ Adv Γ H w Γ' H' w' ∧ VR Γ' v v'
structure CallT (P : Program) (f : FuncId) (args : List Value) (H : AHeap) (Q : Value → AHeap → Prop) : Prop where
 enters : ∀ (args : Array Value) (w : World), (callFunc f args).run P w = .ok (.enter f args) w
 calls : ∀ (Γ : Ga) (w : World) (args' : List Value), Rel Γ H w → Glob Γ → All2 (VR Γ) args args' → CallsIn Fence.wide 0 P f ⟨args'⟩ w (PostV Γ H w Q)
theorem PostC.mono {Γ : Ga} {s : St} {nt : Nat} {w : World} {Q Q' : Ex → St → Prop} (hq : ∀ x s', Q x s' → Q' x s') {e : Exit} {a : Act} {w' : World} (h : PostC Γ s nt w Q e a w') : PostC Γ s nt w Q' e a w' := by
 obtain ⟨x, s', Γ', h1, h2, h3⟩ := h;exact ⟨x, s', Γ', h1, hq _ _ h2, h3⟩
theorem PostC.from {Γ Γ₁ : Ga} {s s₁ : St} {nt : Nat} {w w₁ : World} {Q : Ex → St → Prop} (h : Adv Γ s.heap w Γ₁ s₁.heap w₁) {e : Exit} {a : Act} {w' : World} (k : PostC Γ₁ s₁ nt w₁ Q e a w') : PostC Γ s nt w Q e a w' := by
 obtain ⟨x, s', Γ', h1, h2, h3, h4⟩ := k;exact ⟨x, s', Γ', h1, h2, h3, h.trans h4⟩
theorem CodeT.mono {P : Program} {rd : Option Nat} {nt : Nat} {c : Code} {s : St} {Q Q' : Ex → St → Prop} (h : CodeT P rd nt c s Q) (hq : ∀ x s', Q x s' → Q' x s') : CodeT P rd nt c s Q' :=
 fun Γ F a w hs hF => wpIn_mono (h Γ F a w hs hF) fun _ _ _ hp => hp.mono hq
theorem LoopT.mono {P : Program} {rd : Option Nat} {nt : Nat} {c : Code} {s : St} {Q Q' : Ex → St → Prop} (h : LoopT P rd nt c s Q) (hq : ∀ x s', Q x s' → Q' x s') : LoopT P rd nt c s Q' :=
 fun Γ F a w hs hF => zfp (h Γ F a w hs hF) fun _ _ _ hp => hp.mono hq
theorem CallT.mono {P : Program} {f : FuncId} {args : List Value} {H : AHeap} {Q Q' : Value → AHeap → Prop} (h : CallT P f args H Q) (hq : ∀ v h', Q v h' → Q' v h') : CallT P f args H Q' :=
 ⟨h.enters, fun Γ w args' hr hg ha => (h.calls Γ w args' hr hg ha).mono fun e w' hp => by
  obtain ⟨v', v, H', Γ', h1, h2, h3⟩ := hp;exact ⟨v', v, H', Γ', h1, hq _ _ h2, h3⟩⟩
section
variable {P : Program} {rd : Option Nat} {nt : Nat} {s : St} {Q : Ex → St → Prop}
theorem zfT {c : Code} (hw : ∀ {F : Fence} {n : Nat} {Q : Exit → Act → World → Prop} {a : Act} {w : World}, Q .normal a w → c.wpIn F n P Q a w) (h : Q .normal s) : CodeT P rd nt c s Q :=
 fun Γ _ _ _ hs _ => hw ⟨.normal, s, Γ, trivial, h, hs, .refl _ _ _⟩
theorem zhY (h : Q .normal s) : CodeT P rd nt .skip s Q := zfT (fun h => wpIn_skip h) h
theorem zkJ {l : Nat} (h : Q .normal s) : CodeT P rd nt (.label l) s Q := zfT (fun h => wpIn_label h) h
theorem zjQ (h : Q .ret s) : CodeT P rd nt .ret s Q := fun Γ _ _ _ hs _ => wpIn_ret ⟨.ret, s, Γ, trivial, h, hs, .refl _ _ _⟩
theorem zh0 {id : Nat} (h : Q (.exit id) s) : CodeT P rd nt (.exit id) s Q := fun Γ _ _ _ hs _ => wpIn_exit ⟨.exit id, s, Γ, rfl, h, hs, .refl _ _ _⟩
theorem zjP {x y : Code} {R : Ex → St → Prop} (hx : CodeT P rd nt x s R) (hn : ∀ s', R .normal s' → CodeT P rd nt y s' Q) (he : ∀ e s', R e s' → e ≠ .normal → Q e s') : CodeT P rd nt (.seq x y) s Q := by
 intro Γ F a w hs hF;refine wpIn_seq (wpIn_mono (hx Γ F a w hs hF) ?_)
 rintro e a₁ w₁ ⟨q, s', Γ', h1, h2, h3, h4⟩
 cases e <;> cases q <;> simp only [ExR] at h1
 ·exact wpIn_mono (hn s' h2 Γ' F a₁ w₁ h3 (hF.mono (h4.le hs.rel))) fun _ _ _ hp => hp.from h4
 ·subst h1; exact ⟨.exit _, s', Γ', rfl, he _ _ h2 (by simp), h3, h4⟩
 ·exact ⟨.ret, s', Γ', trivial, he _ _ h2 (by simp), h3, h4⟩
theorem zh3 {c : Operand} {x y : Code} {t : Bool} (hc : evalA s.env c = some (.bool t)) (h : CodeT P rd nt (if t then x else y) s Q) : CodeT P rd nt (.cond c x y) s Q := by
 intro Γ F a w hs hF;have hv := zak hs.env hc;refine wpIn_cond (t := t) ?_ (h Γ F a w hs hF);cases hq : a.eval c <;> rw [hq] at hv <;> cases hv;rfl
theorem zhg {id : Nat} {b : Code} {R : Ex → St → Prop} (h : CodeT P rd nt b s R) (h1 : ∀ s', R (.exit id) s' → Q .normal s') (h2 : ∀ e s', R e s' → e ≠ .exit id → Q e s') : CodeT P rd nt (.block id b) s Q := by
 intro Γ F a w hs hF;refine wpIn_block (wpIn_mono (h Γ F a w hs hF) ?_)
 rintro e a₁ w₁ ⟨q, s', Γ', hx, hR, h3, h4⟩
 cases e <;> cases q <;> simp only [ExR] at hx
 ·exact ⟨.normal, s', Γ', trivial, h2 _ _ hR (by simp), h3, h4⟩
 ·subst hx;rename_i i;by_cases hi : i = id
  ·subst hi;simp only [Exit.inBlock, if_true];exact ⟨.normal, s', Γ', trivial, h1 _ hR, h3, h4⟩
  ·simp only [Exit.inBlock, hi, if_false];exact ⟨.exit i, s', Γ', rfl, h2 _ _ hR (by simpa using hi), h3, h4⟩
 ·exact ⟨.ret, s', Γ', trivial, h2 _ _ hR (by simp), h3, h4⟩
theorem zhZ {b : Code} (h : LoopT P rd nt b s Q) : CodeT P rd nt (.loop b) s Q := fun Γ F a w hs hF => ziV (h Γ F a w hs hF)
theorem zlm {b : Code} {R : Ex → St → Prop} (h : CodeT P rd nt b s R) (hn : ∀ s', R .normal s' → LoopT P rd nt b s' Q) (he : ∀ e s', R e s' → e ≠ .normal → Q e s') : LoopT P rd nt b s Q := by
 intro Γ F a w hs hF;refine zqx (wpIn_mono (h Γ F a w hs hF) ?_)
 rintro e a₁ w₁ ⟨q, s', Γ', h1, h2, h3, h4⟩
 cases e <;> cases q <;> simp only [ExR] at h1
 ·exact zfp (hn s' h2 Γ' F a₁ w₁ h3 (hF.mono (h4.le hs.rel))) fun _ _ _ hp => hp.from h4
 ·subst h1; exact ⟨.exit _, s', Γ', rfl, he _ _ h2 (by simp), h3, h4⟩
 ·exact ⟨.ret, s', Γ', trivial, he _ _ h2 (by simp), h3, h4⟩
theorem zkI {b : Code} (h : CodeT P none nt b s Q) : CodeT P none nt (.scope b) s Q := by
 intro Γ F a w hs hF;have hF' : F = Fence.wide := hF;subst hF';refine wpIn_wide.2 (wp_scope_straight (wpIn_wide.1 (wpIn_mono (h Γ _ a w hs rfl) ?_)))
 rintro e a₁ w₁ ⟨q, s', Γ', h1, h2⟩
 cases e <;> cases q <;> simp only [ExR] at h1
 ·exact ⟨.normal, s', Γ', trivial, h2⟩
 ·subst h1; exact ⟨.exit _, s', Γ', rfl, h2⟩
 ·exact ⟨.ret, s', Γ', trivial, h2⟩
end
end Go.Den
namespace Go.Den
theorem Out.bind_spec {α β : Type} {m : Out α} {f : α → Out β} {outs : List β} (h : Out.bind m f = some outs) : ∃ l, m = some l ∧ ∀ a ∈ l, ∃ o, f a = some o ∧ ∀ x ∈ o, x ∈ outs := by
 unfold Out.bind at h;split at h
 ·cases h
 ·rename_i l;refine ⟨l, rfl, ?_⟩
  induction l generalizing outs with
  | nil => intro a ha; cases ha
  | cons a r ih =>
   cases r with
   | nil =>
    simp only [Out.bind.go] at h;intro b hb;rw [List.mem_singleton] at hb; subst hb
    exact ⟨outs, h, fun _ h => h⟩
   | cons a2 r =>
    simp only [Out.bind.go] at h;split at h
    ·cases h
    ·rename_i x hx;split at h
     ·cases h
     ·rename_i y hy;cases h;intro b hb;rcases List.mem_cons.1 hb with rfl | hb
      ·exact ⟨x, hx, fun z hz => List.mem_append_left _ hz⟩
      ·obtain ⟨o, ho, hs⟩ := ih hy b hb;exact ⟨o, ho, fun z hz => List.mem_append_right _ (hs z hz)⟩
section
variable {P : Program} {C : Ctx} {rd : Option Nat} {nt : Nat} {ops : Array Oper}
def OpT (P : Program) (rd : Option Nat) (nt : Nat) (ops : Array Oper) (i : Nat) (s : St) (Q : St → Prop) : Prop :=
 ∀ (Γ : Ga) (F : Fence) (a : Act) (w : World), StR Γ s nt a w → FenceR Γ rd F → ∀ (K : Act → World → Prop) (Qx : Exit → Act → World → Prop),
  (∀ s' Γ' a' w', Q s' → StR Γ' s' nt a' w' → Adv Γ s.heap w Γ' s'.heap w' → (∃ o v', ops[i]? = some o ∧ a' = a.put o.dst v') → K a' w') → wpOpIn F 0 P ops Qx i K a w
theorem zcI {Γ : Ga} {env : Env} {a : Act} (he : EnvR Γ env nt a.tmps) (o : Oper) : ∀ {b : Bool}, wantedA o ops env = some b → Region.wanted o (yielded ops a.tmps) = b := by
 intro b hb;unfold Region.wanted;unfold wantedA at hb
 cases hg : o.guard with
 | none => rw [hg] at hb; cases hb; rfl
 | some g =>
  obtain ⟨j, want⟩ := g;simp only;unfold yielded;rw [hg] at hb;simp only at hb
  cases hj : ops[j]? with
  | none => rw [hj] at hb; cases hb; simp
  | some p =>
   rw [hj] at hb;simp only [Option.bind_some];simp only at hb
   cases hd : p.dst with
   | none => rw [hd] at hb; cases hb; simp
   | some d =>
    rw [hd] at hb;simp only [Option.bind_some];simp only at hb
    cases hed : env.get d with
    | none => rw [hed] at hb; cases hb
    | some v =>
     rw [hed] at hb;have hv := he.val d v hed
     cases ht : a.tmps[d]? with
     | none =>
      have hu : a.tmps.getD d undef = undef := by simp [ht]
      rw [hu] at hv
      cases v <;> first | (cases hv; done) | (cases hb; simp)
     | some v' =>
      have hu : a.tmps.getD d undef = v' := by simp [ht]
      rw [hu] at hv;cases hv <;> cases hb <;> simp
theorem zeI {Γ Γ' : Ga} {s : St} {a : Act} {w w' : World} (hs : StR Γ s nt a w) {H' : AHeap} {o : Oper} {v v' : Value} {e : Env} (hle : Ga.le Γ Γ') (hp : putDst nt o v s.env = some e) (hr : Rel Γ' H' w') (hv : VR Γ' v v') :
  StR Γ' ⟨e, s.defs, H'⟩ nt (a.put o.dst v') w' := by
 have hd : All2 (fun d (df : Deferred) => ∃ i, Γ' d = some i ∧ df.target = .collected i.real) s.defs (a.put o.dst v').defers := by
  have : (a.put o.dst v').defers = a.defers := by unfold Act.put; cases o.dst <;> rfl
  rw [this];exact hs.defs.imp fun d df ⟨i, h1, h2⟩ => ⟨i, hle _ _ h1, h2⟩
 refine ⟨hr, ?_, hd⟩;unfold putDst at hp;unfold Act.put;split at hp
 ·rename_i hdst; cases hp;rw [hdst];exact hs.env.mono hle
 ·rename_i d hdst;split at hp
  ·rename_i hlt; cases hp;rw [hdst];exact (hs.env.mono hle).set hlt hv
  ·cases hp
theorem zqq {Γ : Ga} {s : St} {a : Act} {w : World} (hs : StR Γ s nt a w) {outs : List (Value × AHeap)} {r : Result Next} (h : OpPost Γ s.heap w outs r) {o : Oper} {F : Fence} {Q : St → Prop}
  (hq : ∀ v H', (v, H') ∈ outs → ∃ e, putDst nt o v s.env = some e ∧ Q ⟨e, s.defs, H'⟩) {K : Act → World → Prop} {Qx : Exit → Act → World → Prop}
  (hK : ∀ s' Γ' a' w', Q s' → StR Γ' s' nt a' w' → Adv Γ s.heap w Γ' s'.heap w' → (∃ v', a' = a.put o.dst v') → K a' w') : o.uponIn F 0 P a K Qx r := by
 obtain ⟨v, H', v', w', Γ', hmem, hd, hr, ha, hv⟩ := h;obtain ⟨e, hp, hQ⟩ := hq v H' hmem;have hst := zeI hs (ha.le hs.rel) hp hr hv;rcases hd with rfl | ⟨rfl, rfl⟩
 ·rw [Oper.uponIn_value]; exact hK _ _ _ _ hQ hst ha ⟨_, rfl⟩
 ·rw [Oper.uponIn_skip]; exact hK _ _ _ _ hQ hst ha ⟨_, rfl⟩
theorem zeO {i : Nat} {o : Oper} (ho : ops[i]? = some o) {s : St} (hw : wantedA o ops s.env = some false) {e : Env} (hp : putDst nt o undefV s.env = some e) {Q : St → Prop} (hQ : Q ⟨e, s.defs, s.heap⟩) : OpT P rd nt ops i s Q := by
 intro Γ F a w hs hF K Qx hK;unfold wpOpIn;rw [ho];simp only [zcI hs.env o hw, Bool.false_eq_true, if_false];exact ⟨fun f _ => hF.fn f, hK _ _ _ _ hQ (zeI hs (Ga.le.refl _) hp hs.rel .undef) (.refl _ _ _) ⟨_, _, ho, rfl⟩⟩
theorem zjm {env : Env} {o : Op} {H : AHeap} {outs : List (Value × AHeap)} (h : opA P C env o H = some outs) : ∀ c, o ≠ .defer c := by
 intro c hc; subst hc; simp [opA] at h
theorem zbE (hC : CtxOk P C) {i : Nat} {o : Oper} (ho : ops[i]? = some o) {s : St} (hw : wantedA o ops s.env = some true) {outs : List (Value × AHeap)} (h : opA P C s.env o.op s.heap = some outs) {Q : St → Prop}
  (hq : ∀ v H', (v, H') ∈ outs → ∃ e, putDst nt o v s.env = some e ∧ Q ⟨e, s.defs, H'⟩) : OpT P rd nt ops i s Q := by
 intro Γ F a w hs hF K Qx hK;unfold wpOpIn;rw [ho];simp only [zcI hs.env o hw, if_true];refine ⟨fun f _ => hF.fn f, ?_⟩;rw [Oper.semAt_eq _ _ _ (zjm h)];exact zqq hs (zoz hC hs.rel hs.env h) hq fun s' Γ' a' w' h1 h2 h3 h4 => hK s' Γ' a' w' h1 h2 h3 ⟨_, h4.choose, ho, h4.choose_spec⟩
theorem zeP {i : Nat} {o : Oper} (ho : ops[i]? = some o) {s : St} (hw : wantedA o ops s.env = some true) {c : Call} (hc : o.op = .call c) {f : FuncId} {args : List Value} (ht : target s.env c = some (.fn f args))
  {R : Value → AHeap → Prop} (h : CallT P f args s.heap R) {Q : St → Prop} (hq : ∀ v H', R v H' → ∃ e, putDst nt o v s.env = some e ∧ Q ⟨e, s.defs, H'⟩) : OpT P rd nt ops i s Q := by
 intro Γ F a w hs hF K Qx hK;unfold wpOpIn;rw [ho];simp only [zcI hs.env o hw, if_true];refine ⟨fun f _ => hF.fn f, ?_⟩;rw [Oper.semAt_eq _ _ _ (by rw [hc]; intro c h; cases h)];unfold target at ht;split at ht
 ·rename_i fo hfo;split at ht
  ·rename_i g x y l hf hl;cases ht;have hv := zak hs.env hf;have hargs := zcE hs.env hl;cases hq' : a.eval fo <;> rw [hq'] at hv <;> cases hv;rename_i p p' q q' ha hb
   have hrun : (execOp a.eval o).run P w = .ok (.enter f ⟨p' ++ (c.args.toList.map a.eval) ++ q'⟩) w := by
    obtain ⟨dst, op, type, pos, after, guard⟩ := o;simp only at hc; subst hc;unfold execOp;simp only [Sem.run_bind, resolve, hfo, hq', Deferred.ofValue, Sem.run_pure, Result.andThen_ok, invoke, ziu];have : ((⟨p'⟩ : Array Value) ++ ⟨c.args.toList.map a.eval⟩ ++ ⟨q'⟩) = ⟨p' ++ (c.args.toList.map a.eval) ++ q'⟩ := by apply Array.toList_inj.1; simp
    rw [this]; exact h.enters _ _
   rw [hrun, Oper.uponIn_enter];refine ⟨fun hd => by rw [hF.depth] at hd; simp at hd, ?_⟩;refine CallsIn.mono (hF.calls (h.calls Γ w _ hs.rel hs.env.glob ((ha.append hargs).append hb))) ?_
   rintro e w' ⟨v', v, H', Γ', rfl, hR, h1, h2, h3⟩
   obtain ⟨e, hp, hQ⟩ := hq v H' hR;exact hK _ _ _ _ hQ (zeI hs (h2.le hs.rel) hp h1 h3) h2 ⟨_, _, ho, rfl⟩
  ·cases ht
  ·cases ht
 ·cases ht
theorem zfS {id : Nat} {Q : Ex → St → Prop} {s : St} (T : Nat → St → Prop) (h0 : T 0 s) (hstep : ∀ i s, i < ops.size → T i s → OpT P rd nt ops i s (T (i + 1))) (hend : ∀ s, T ops.size s → Q .normal s) :
  CodeT P rd nt (.region id ops false) s Q := by
 intro Γ F a w hs hF;refine wpIn_region ?_
 have key : ∀ (m i : Nat), i + m = ops.size → ∀ (s₁ : St) (Γ₁ : Ga) (a₁ : Act) (w₁ : World), T i s₁ → StR Γ₁ s₁ nt a₁ w₁ → Adv Γ s.heap w Γ₁ s₁.heap w₁ →
   wpOpsIn F 0 P ops (PostC Γ s nt w Q) (List.range' i m) a₁ w₁ := by
  intro m
  induction m with
  | zero =>
   intro i hi s₁ Γ₁ a₁ w₁ hT hs₁ ha;have : i = ops.size := by omega
   subst this
   exact ⟨.normal, s₁, Γ₁, trivial, hend _ hT, hs₁, ha⟩
  | succ m ih =>
   intro i hi s₁ Γ₁ a₁ w₁ hT hs₁ ha;rw [List.range'_succ, wpOpsIn_cons];exact hstep i s₁ (by omega) hT Γ₁ F a₁ w₁ hs₁ (hF.mono (ha.le hs.rel)) _ _ fun s' Γ' a' w' hT' hs' ha' _ => ih (i + 1) (by omega) s' Γ' a' w' hT' hs' (ha.trans ha')
 rw [List.range_eq_range'];exact key ops.size 0 (by omega) s Γ a w h0 hs (.refl _ _ _)
end
structure RecOk (P : Program) (R : Rec) : Prop where
 code : ∀ {rd nt c s outs}, R.code rd nt c s = some outs → CodeT P rd nt c s fun x s' => (x, s') ∈ outs
 loop : ∀ {rd nt c s outs}, R.loop rd nt c s = some outs → LoopT P rd nt c s fun x s' => (x, s') ∈ outs
 call : ∀ {f args H outs}, R.call f args H = some outs → CallT P f args H fun v H' => (v, H') ∈ outs
end Go.Den
namespace Go.Den
section
variable {P : Program} {C : Ctx} {rd : Option Nat} {nt : Nat} {ops : Array Oper}
theorem zgy {Γ : Ga} {n : Nat} : ∀ {ps : List Tmp} {args args' : List Value} {env e : Env} {tmps : Array Value}, EnvR Γ env n tmps → All2 (VR Γ) args args' → setParams ps args n env = some e →
  EnvR Γ e n ((ps.zip args').foldl (fun t (x : Tmp × Value) => t.setIfInBounds x.1 x.2) tmps) ∧ ps.length = args'.length := by
 intro ps
 induction ps with
 | nil =>
  intro args args' env e tmps he ha h
  cases ha with
  | nil => simp only [setParams] at h; cases h; exact ⟨he, rfl⟩
  | cons _ _ => simp [setParams] at h
 | cons t ps ih =>
  intro args args' env e tmps he ha h
  cases ha with
  | nil => simp [setParams] at h
  | cons hv ha =>
   simp only [setParams] at h;split at h
   ·rename_i hlt;obtain ⟨h1, h2⟩ := ih (he.set hlt hv) ha h;exact ⟨by simpa using h1, by simp [h2]⟩
   ·cases h
theorem Rel.loopBlk {Γ : Ga} {H : AHeap} {w : World} (hr : Rel Γ H w) {l : Nat} {r : ALoop} (hb : H.get l = some (.loop r)) : ∃ i r', Γ l = some i ∧ w.heap[i.real]? = some (.loop r') ∧ LoopRel Γ r r' := by
 obtain ⟨i, o, hi, ho, r', rfl, hr'⟩ := hr.blk _ _ hb;exact ⟨i, r', hi, ho, hr'⟩
theorem zik {Γ : Ga} {H : AHeap} {w : World} (hr : Rel Γ H w) {l : Nat} {r r2 : ALoop} (hb : H.get l = some (.loop r)) (hown : own l = true) {i : BI} (hi : Γ l = some i) {r' r2' : Loop} (ho : w.heap[i.real]? = some (.loop r'))
  (h2 : LoopRel Γ r2 r2') : Rel Γ (H.put l (.loop r2)) (w.putObj i.real (.loop r2')) ∧ Adv Γ H w Γ (H.put l (.loop r2)) (w.putObj i.real (.loop r2')) :=
 hr.put (x' := .loop r2) hb rfl hown hi (zbM _ ho) ⟨r2', rfl, h2⟩
theorem zkc {R : Rec} (hR : RecOk P R) {l : Nat} {args : List Value} {H : AHeap} {outs : List (Value × AHeap)} (h : roundA R l args H = some outs) {Γ : Ga} {w : World} (hr : Rel Γ H w) {i : BI} (hi : Γ l = some i)
  {args' : List Value} (ha : All2 (VR Γ) args args') :
  ∃ fn tmps asg body, (Instr.yield i.real ⟨args'⟩).run P w = .ok (.round i.real fn tmps asg body) w ∧ RoundIn Fence.wide 0 P i.real fn tmps asg body w (PostV Γ H w fun v H' => (v, H') ∈ outs) := by
 unfold roundA at h;split at h
 ·cases h
 ·rename_i hown;have hown' : own l = true := by simpa using hown
  split at h
  ·rename_i r hb;obtain ⟨i2, r', hi', ho, hlr⟩ := hr.loopBlk hb;rw [hi] at hi'; cases hi';split at h
   ·rename_i e hset hst;obtain ⟨he, hlen⟩ := zgy hlr.env ha hset;obtain ⟨l1, hl1, hall⟩ := Out.bind_spec h
    have hsz : (⟨args'⟩ : Array Value).size = r'.params.size := by
     have : r'.params.toList.length = r.params.length := by rw [hlr.params]
     simp at this; simp; omega
    refine ⟨_, _, _, _, run_yield ho hsz, roundIn_of_wpIn trivial ?_⟩
    have hfold : (r'.params.zip ⟨args'⟩).foldl (fun tmps (x : Tmp × Value) => tmps.setIfInBounds x.1 x.2) r'.tmps = (r.params.zip args').foldl (fun t (x : Tmp × Value) => t.setIfInBounds x.1 x.2) r'.tmps := by
     rw [← Array.foldl_toList, Array.toList_zip, hlr.params]
    have hs0 : StR Γ ⟨e, [], H⟩ r.ntm { tmps := (r'.params.zip ⟨args'⟩).foldl (fun tmps (x : Tmp × Value) => tmps.setIfInBounds x.1 x.2) r'.tmps, defers := [] } w :=
     ⟨hr, by rw [hfold]; exact he, .nil⟩
    rw [hlr.assign, hlr.body];refine wpIn_mono (hR.code hl1 Γ (Fence.wide.inRound i.real) _ w hs0 ⟨i, hi, rfl⟩) ?_
    rintro ex a₁ w₁ ⟨x, s₁, Γ₁, hx, hmem, hs₁, hadv₁⟩
    obtain ⟨o1, ho1, hsub1⟩ := hall _ hmem;simp only at ho1;cases x <;> simp only [reduceCtorEq] at ho1;cases ex <;> simp only [ExR] at hx;have hi₁ : Γ₁ l = some i := hadv₁.le hr l i hi;split at ho1
    ·rename_i r1 hb1;obtain ⟨i3, r1', hi3, ho1', hlr1⟩ := hs₁.rel.loopBlk hb1;rw [hi₁] at hi3; cases hi3;split at ho1
     ·rename_i hready;obtain ⟨l2, hl2, hall2⟩ := Out.bind_spec ho1;have hst1 : r1'.state = .ready := by rw [hlr1.state]; exact hready
      obtain ⟨p1, p2⟩ := zik (r2 := { r1 with state := .busy }) (r2' := { r1' with state := .busy }) hs₁.rel hb1 hown' hi₁ ho1'
       ⟨rfl, hlr1.pending, hlr1.env, hlr1.params, hlr1.assign, hlr1.body, hlr1.defers⟩
      refine ⟨_, run_beginRound ho1' hst1, ?_⟩;refine wpIn_mono (hR.code hl2 Γ₁ (Fence.wide.inRound i.real) a₁ _ ⟨p1, hs₁.env, hs₁.defs⟩ ⟨i, hi₁, rfl⟩) ?_
      rintro ex2 a₂ w₂ ⟨y, s₂, Γ₂, hy, hmem2, hs₂, hadv₂⟩
      obtain ⟨o2, ho2, hsub2⟩ := hall2 _ hmem2;simp only at ho2;have hadvA : Adv Γ H w Γ₂ s₂.heap w₂ := (hadv₁.trans p2).trans hadv₂;have hi₂ : Γ₂ l = some i := hadvA.le hr l i hi;split at ho2
      ·rename_i r2 hb2;cases ho2;obtain ⟨i4, r2', hi4, ho2', hlr2⟩ := hs₂.rel.loopBlk hb2;rw [hi₂] at hi4; cases hi4
       have fin : ∀ jump : Option Code, jump = jumpOf y → ∃ v w', (Instr.endRound i.real jump).run P w₂ = .ok v w' ∧ PostV Γ H w (fun v H' => (v, H') ∈ outs) (.returned v) w' := by
        intro jump hj
        obtain ⟨q1, q2⟩ := zik (r2 := { r2 with state := if (jumpOf y).isNone then .ready else .done, pending := jumpOf y }) (r2' := { r2' with state := if jump.isNone then .ready else .done, pending := jump }) hs₂.rel hb2 hown' hi₂ ho2'
         ⟨by rw [hj], hj, hlr2.env, hlr2.params, hlr2.assign, hlr2.body, hlr2.defers⟩
        refine ⟨_, _, run_endRound jump ho2', .bool jump.isNone, .bool (jumpOf y).isNone, _, Γ₂, rfl, hsub1 _ (hsub2 _ (List.mem_singleton.2 rfl)), q1, hadvA.trans q2, by rw [hj]; exact .bool _⟩
       cases ex2 <;> cases y <;> simp only [ExR] at hy
       ·exact fin _ rfl
       ·subst hy; exact fin _ rfl
       ·exact fin _ rfl
      ·cases ho2
     ·cases ho1
    ·cases ho1
   ·cases h
  ·cases h
theorem zox {R : Rec} (hR : RecOk P R) {i : Nat} {o : Oper} (ho : ops[i]? = some o) {s : St} (hw : wantedA o ops s.env = some true) {c : Call} (hc : o.op = .call c) {l : Nat} {args : List Value} (ht : target s.env c = some (.round l args))
  {outs : List (Value × AHeap)} (h : roundA R l args s.heap = some outs) {Q : St → Prop} (hq : ∀ v H', (v, H') ∈ outs → ∃ e, putDst nt o v s.env = some e ∧ Q ⟨e, s.defs, H'⟩) : OpT P rd nt ops i s Q := by
 intro Γ F a w hs hF K Qx hK;unfold wpOpIn;rw [ho];simp only [zcI hs.env o hw, if_true];refine ⟨fun f _ => hF.fn f, ?_⟩;rw [Oper.semAt_eq _ _ _ (by rw [hc]; intro c h; cases h)];unfold target at ht;split at ht
 ·rename_i fo hfo;split at ht
  ·cases ht
  ·rename_i g x y l' hf hl;cases ht;have hv := zak hs.env hf;have hargs := zcE hs.env hl;cases hq' : a.eval fo <;> rw [hq'] at hv <;> cases hv;rename_i bi p p' q q' ha hb hi;obtain ⟨fn, tmps, asg, body, hy, hround⟩ := zkc hR h hs.rel hi (ha.append hargs)
   have hrun : (execOp a.eval o).run P w = .ok (.round bi.real fn tmps asg body) w := by
    obtain ⟨dst, op, type, pos, after, guard⟩ := o;simp only at hc; subst hc;unfold execOp;simp only [Sem.run_bind, resolve, hfo, hq', Deferred.ofValue, Sem.run_pure, Result.andThen_ok, invoke, ziu];have : ((⟨p'⟩ : Array Value) ++ ⟨c.args.toList.map a.eval⟩) = ⟨p' ++ (c.args.toList.map a.eval)⟩ := by apply Array.toList_inj.1; simp
    rw [this]; exact hy
   rw [hrun, Oper.uponIn_round];refine ⟨fun hd => by rw [hF.depth] at hd; simp at hd, ?_⟩;refine RoundIn.mono (hF.round hround) ?_
   rintro e w' ⟨v', v, H', Γ', rfl, hR', h1, h2, h3⟩
   obtain ⟨e, hp, hQ⟩ := hq v H' hR';exact hK _ _ _ _ hQ (zeI hs (h2.le hs.rel) hp h1 h3) h2 ⟨_, _, ho, rfl⟩
  ·cases ht
 ·cases ht
end
end Go.Den
namespace Go.Den
section
variable {P : Program} {C : Ctx} {nt : Nat}
theorem zhf {f : Operand} {ps : Array Tmp} {asg body : Code} {s : St} {g : FuncId} {x y : Array Value} (hf : evalA s.env f = some (.func (.func g) x y)) {R : Value → AHeap → Prop} {Q : Ex → St → Prop}
  (hcall : CallT P g (x.toList ++ [.func (.yield (s.heap.add .defd).fresh) #[] #[]] ++ y.toList)
   ((s.heap.add .defd).add (.loop { state := .ready, pending := none, env := s.env, ntm := nt, params := ps.toList, assign := asg, body, defers := s.heap.fresh })) R)
  (hq : ∀ v h3, R v h3 → ∃ r, h3.get (s.heap.add .defd).fresh = some (.loop r) ∧ r.state ≠ .busy ∧
   match r.pending with
   | none => Q .normal ⟨s.env, s.heap.fresh :: s.defs, h3.put (s.heap.add .defd).fresh (.loop { r with state := .exhausted })⟩
   | some j => CodeT P none nt j ⟨s.env, s.heap.fresh :: s.defs, h3.put (s.heap.add .defd).fresh (.loop { r with state := .exhausted })⟩ Q) :
  CodeT P none nt (.rangeFunc f ps asg body) s Q := by
 intro Γ F a w hs hF;have hF' : F = Fence.wide := hF;subst hF';refine wpIn_rangeFunc fun fn _ => ?_
 have hv := zak hs.env hf;cases hq' : a.eval f <;> rw [hq'] at hv <;> cases hv;rename_i p p' q q' ha hb;obtain ⟨r1, d1⟩ := hs.rel.add .defd (.deferred (some [])) { real := w.heap.size, shift := 0, size := 0, esz := 0, slack := false, rsize := 0 } rfl rfl;have l1 := d1.le hs.rel
 obtain ⟨r2, d2⟩ := r1.add (.loop { state := .ready, pending := none, env := s.env, ntm := nt, params := ps.toList, assign := asg, body, defers := s.heap.fresh })
  (.loop { state := .ready, pending := none, fn, tmps := a.tmps, params := ps, assign := asg, body, defers := w.heap.size })
  { real := w.heap.size + 1, shift := 0, size := 0, esz := 0, slack := false, rsize := 0 } (by simp)
  ⟨_, rfl, ⟨rfl, rfl, hs.env.mono l1, rfl, rfl, rfl, { real := w.heap.size, shift := 0, size := 0, esz := 0, slack := false, rsize := 0 }, by simp [Ga.upd], rfl⟩⟩
 have l2 := d2.le r1;have d12 := d1.trans d2
 have hy : VR ((Γ.upd s.heap.fresh { real := w.heap.size, shift := 0, size := 0, esz := 0, slack := false, rsize := 0 }).upd (s.heap.add .defd).fresh { real := w.heap.size + 1, shift := 0, size := 0, esz := 0, slack := false, rsize := 0 })
   (.func (.yield (s.heap.add .defd).fresh) #[] #[]) (.func (.yield (w.heap.size + 1)) #[] #[]) :=
  VR.yield (i := { real := w.heap.size + 1, shift := 0, size := 0, esz := 0, slack := false, rsize := 0 }) (by simp only [Ga.upd, if_true]) .nil .nil
 have hargs := ((ha.imp fun _ _ h => (h.mono l1).mono l2).append (.cons hy .nil)).append (hb.imp fun _ _ h => (h.mono l1).mono l2);have hmark : (s.heap.add .defd).fresh ≠ s.heap.fresh := by rw [zbd]; omega
 have hres : ∀ W, (resolve a.eval (rangeCall f (w.heap.size + 1)) 0).run P W = .ok { target := .fn (.func g) ⟨q'⟩, args := ⟨p' ++ [.func (.yield (w.heap.size + 1)) #[] #[]]⟩ } W := by
  intro W;simp only [resolve, hq', Deferred.ofValue, Sem.run_pure]
  congr 2
  apply Array.toList_inj.1;simp [Act.eval]
 refine ⟨_, _, _, _, _, g, _, _, run_enterLoop_outer fn a.tmps ps asg body, hres _, fun _ _ => trivial, hcall.enters _ _, fun h => by simp [Fence.wide] at h, ?_⟩;have hc := hcall.calls _ _ _ r2 ((hs.env.glob.mono l1).mono l2) hargs;have harr : ((⟨p' ++ [Value.func (.yield (w.heap.size + 1)) #[] #[]]⟩ : Array Value) ++ ⟨q'⟩) = ⟨p' ++ [Value.func (.yield (w.heap.size + 1)) #[] #[]] ++ q'⟩ := by apply Array.toList_inj.1; simp
 rw [← harr] at hc;refine CallsIn.mono hc ?_
 rintro e w' ⟨v', v, h3, Γ', rfl, hR, h1, h2, _⟩
 have l3 := h2.le r2;obtain ⟨r, hget, hbusy, hcont⟩ := hq v h3 hR;obtain ⟨i, r', hi, ho, hlr⟩ := h1.loopBlk hget;obtain ⟨q1, q2⟩ := zik (r2 := { r with state := .exhausted }) (r2' := { r' with state := .exhausted }) h1 hget (zby _) hi ho ⟨rfl, hlr.pending, hlr.env, hlr.params, hlr.assign, hlr.body, hlr.defers⟩
 have hi2 : i.real = w.heap.size + 1 := by
  have := l3 (s.heap.add .defd).fresh { real := w.heap.size + 1, shift := 0, size := 0, esz := 0, slack := false, rsize := 0 } (by simp only [Ga.upd, if_true]);rw [hi] at this; cases this; rfl
 rw [hi2] at ho q1 q2;refine ⟨_, _, run_endLoop ho (by rw [hlr.state]; exact hbusy), ?_⟩
 have hs' : StR Γ' ⟨s.env, s.heap.fresh :: s.defs, h3.put (s.heap.add .defd).fresh (.loop { r with state := .exhausted })⟩ nt { a with defers := [{ target := .collected w.heap.size, args := #[] }] ++ a.defers } (w'.putObj (w.heap.size + 1) (.loop { r' with state := .exhausted })) := by
  refine ⟨q1, ((hs.env.mono l1).mono l2).mono l3, .cons ⟨{ real := w.heap.size, shift := 0, size := 0, esz := 0, slack := false, rsize := 0 }, l3 _ _ (l2 _ _ (by simp [Ga.upd])), rfl⟩ (hs.defs.imp fun d df ⟨i, h1, h2⟩ => ⟨i, l3 _ _ (l2 _ _ (l1 _ _ h1)), h2⟩)⟩
 have hadv := (d12.trans h2).trans q2;rw [hlr.pending] at hs' hadv ⊢
 cases hp : r.pending with
 | none =>
  rw [hp] at hcont;simp only
  exact ⟨.normal, _, Γ', trivial, hcont, by rw [hp] at hs'; exact hs', by rw [hp] at hadv; exact hadv⟩
 | some j =>
  rw [hp] at hcont;simp only;rw [hp] at hs' hadv;refine wpIn_mono (hcont Γ' _ _ _ hs' rfl) fun _ _ _ hp => hp.from hadv
end
end Go.Den
namespace Go.Den
section
variable {P : Program} {C : Ctx} {nt : Nat}
theorem Rel.turnKill {Γ : Ga} {H : AHeap} {w w' : World} (hr : Rel Γ H w) {b : Nat} {x : ABlk} {i : BI} {o : Obj} (hb : H.get b = some x) (hown : x.isOwn = true)
  (hob : own b = true) (hi : Γ b = some i) (ht : Turned w w' i.real o) : Rel Γ (H.kill b) w' ∧ Adv Γ H w Γ (H.kill b) w' := by
 refine ⟨⟨hr.dom, ?_, ((hr.kill hob).1).ownd, ?_⟩, ⟨fun _ _ => rfl, Nat.le_refl _, Nat.le_of_eq ht.size.symm, ?_, ?_, ht.os, ht.tape, ht.output, .kill _ hob⟩⟩
 ·intro c y hc;rw [AHeap.get_kill _ _ _ hob] at hc;split at hc
  ·cases hc
  ·rename_i hne;obtain ⟨j, o', hj, hw, hobj⟩ := hr.blk c y hc;refine ⟨j, o', hj, ?_, hobj⟩;rw [ht.other _ (fun e => hr.sep b c x y i j hb hc hi hj hown (fun e => hne e.symm) e.symm)];exact hw
 ·exact ((hr.kill hob).1).sep
 ·intro r hlt hm;exact ht.other r (fun e => hm ⟨b, x, i, hb, hown, hi, e.symm⟩)
 ·exact ((hr.kill hob).2).mine
theorem zho {fn : Func} {tmps : Array Value} {R : Ending → World → Prop} : ∀ {ds : List Nat} {H H' : AHeap} {Γ : Ga} {w : World} {dfs : List Deferred}, takeDefs ds H = some H' → Rel Γ H w →
  All2 (fun d (df : Deferred) => ∃ i, Γ d = some i ∧ df.target = .collected i.real) ds dfs →
  (∀ w', Rel Γ H' w' → Adv Γ H w Γ H' w' → LeavesIn Fence.wide 0 P fn tmps R [] .returning w') → LeavesInM Fence.wide 0 P fn tmps R dfs .returning w := by
 intro ds
 induction ds with
 | nil =>
  intro H H' Γ w dfs h hr hd hk;cases hd;simp only [takeDefs] at h; cases h
  exact hk w hr (.refl _ _ _)
 | cons d ds ih =>
  intro H H' Γ w dfs h hr hd hk
  cases hd with
  | cons hx hd =>
   obtain ⟨i, hi, htar⟩ := hx;simp only [takeDefs] at h;split at h
   ·rename_i hb;split at h
    ·rename_i hown;obtain ⟨i2, o, hi2, ho, hobj⟩ := hr.blk _ _ hb;rw [hi] at hi2; cases hi2;cases hobj;obtain ⟨r1, d1⟩ := hr.turnKill hb rfl hown hi (zbM (.deferred none) ho);exact ⟨by simp, .inl ⟨_, _, htar, run_takeDeferred ho, ih h r1 hd fun w' h1 h2 => hk w' h1 (d1.trans h2)⟩⟩
    ·cases h
   ·cases h
def resOf (tmps : Array Value) : ResultVar → Sem Value
 | .tmp t => pure (tmps.getD t undef)
 | .cell a t => do loadVar t (← asAddr (tmps.getD a undef))
theorem zih (hC : CtxOk P C) {Γ : Ga} {H : AHeap} {w : World} {env : Env} {a : Act} (hr : Rel Γ H w) (he : EnvR Γ env nt a.tmps) : ∀ {l : List ResultVar} {vs : List Value}, resultsA C env H l = some vs →
  ∃ vs', (l.mapM (resOf a.tmps)).run P w = .ok vs' w ∧ All2 (VR Γ) vs vs' := by
 intro l
 induction l with
 | nil => intro vs h; simp only [resultsA] at h; cases h; exact ⟨[], by simp, .nil⟩
 | cons x l ih =>
  intro vs h
  cases x with
  | tmp t =>
   simp only [resultsA] at h;split at h
   ·rename_i v r hv hl;cases h;obtain ⟨vs', h1, h2⟩ := ih hl;have := zak he hv;refine ⟨a.tmps.getD t undef :: vs', ?_, .cons this h2⟩;simp only [List.mapM_cons, resOf, Sem.run_bind, Sem.run_pure, Result.andThen_ok, h1]
   ·cases h
  | cell b t =>
   simp only [resultsA] at h;split at h
   ·rename_i p hp;split at h
    ·rename_i v r hv hl;cases h;obtain ⟨vs', h1, h2⟩ := ih hl;have hp' := zak he hp;obtain ⟨v', h3, h4⟩ := zgU hC hr hv hp';refine ⟨v' :: vs', ?_, .cons h4 h2⟩
     have h5 : (resOf a.tmps (.cell b t)).run P w = .ok v' w := by
      have hp2 : VR Γ p (a.tmps.getD b undef) := hp';have h3' : (Instr.loadAt t (a.tmps.getD b undef)).run P w = .ok v' w := h3;simp only [resOf, Sem.run_bind];generalize a.tmps.getD b undef = q at hp2 h3'
      unfold loadA at hv;split at hv
      ·cases hp2;simpa [asAddr, Instr.loadAt, Instr.sureAddr] using h3'
      ·cases hv
     simp only [List.mapM_cons, Sem.run_bind, h5, Result.andThen_ok, h1, Sem.run_pure]
    ·cases h
   ·cases h
def packA : List Value → Value
 | [v] => v
 | l => .tuple ⟨l⟩
theorem zig (hC : CtxOk P C) {Γ : Ga} {H : AHeap} {w : World} {env : Env} {a : Act} (hr : Rel Γ H w) (he : EnvR Γ env nt a.tmps) {fn : Func} {vs : List Value} (h : resultsA C env H fn.results.toList = some vs) :
  ∃ v', (results fn a.tmps).run P w = .ok v' w ∧ VR Γ (packA vs) v' := by
 obtain ⟨vs', h1, h2⟩ := zih hC hr he h
 have hm : (fn.results.mapM (resOf a.tmps)).run P w = .ok vs'.toArray w := by
  rw [← Array.toArray_toList (xs := fn.results), List.mapM_toArray];simp only [Sem.run_map, h1, Result.andThen_ok]
 have hlen : vs.length = vs'.length := h2.length
 have hres : results fn a.tmps = (do let vs ← fn.results.mapM (resOf a.tmps); pure (if h : vs.size = 1 then vs[0] else .tuple vs)) := by
  unfold results
  congr 1
 rw [hres];simp only [Sem.run_bind, hm];simp only [Result.andThen_ok, Sem.run_pure];refine ⟨_, rfl, ?_⟩
 cases h2 with
 | nil => exact .tuple .nil
 | cons x r =>
  cases r with
  | nil => simpa [packA] using x
  | cons y r => simpa [packA] using VR.tuple (.cons x (.cons y r))
theorem zlO (hC : CtxOk P C) {f : FuncId} {args : List Value} {H : AHeap} {fn : Func} {c : Code} (hfn : C.fn.get f = some fn) (hb : fn.body = some c) (hlen : args.length ≤ fn.ntmps) {R : Ex → St → Prop} {Q : Value → AHeap → Prop}
  (h : CodeT P none fn.ntmps c ⟨Tr.ofList args, [], H⟩ R)
  (hq : ∀ x s, R x s → (∀ id, x ≠ .exit id) ∧ ∃ h' l, takeDefs s.defs s.heap = some h' ∧ resultsA C s.env h' fn.results.toList = some l ∧ Q (packA l) h') :
  CallT P f args H Q := by
 obtain ⟨hf, hname⟩ := hC.fn f fn hfn;refine ⟨fun args w => ?_, fun Γ w args' hr hg ha => ?_⟩
 ·simp [callFunc, Sem.run_bind, hf, (by simpa using hname : ¬ fn.name = "runtime.NumGoroutine"), hb]
 ·have hl : args.length = args'.length := ha.length;refine callsIn_of_wp_marks hf hb trivial ?_
  have hs : StR Γ ⟨Tr.ofList args, [], H⟩ fn.ntmps { tmps := (⟨args'⟩ : Array Value) ++ Array.replicate (fn.ntmps - (⟨args'⟩ : Array Value).size) undef, defers := [] } w := by
   refine ⟨hr, ⟨?_, hg, fun t => ?_⟩, .nil⟩
   ·simp; omega
   ·intro v hv;rw [Tr.zcs] at hv;obtain ⟨v', h1, h2⟩ := ha.get hv;have ht : t < args'.length := (List.getElem?_eq_some_iff.1 h1).1
    have h3 : ((⟨args'⟩ : Array Value) ++ Array.replicate (fn.ntmps - (⟨args'⟩ : Array Value).size) undef).getD t undef = v' := by
     rw [Array.getD_eq_getD_getElem?, Array.getElem?_append_left (by simp; omega)];simp [h1]
    rw [h3]; exact h2
  refine wpIn_mono (h Γ Fence.wide _ w hs rfl) ?_
  rintro e a' w' ⟨x, s', Γ', hx, hR, hs', hadv⟩
  obtain ⟨hne, h', l, hd, hres, hQ⟩ := hq x s' hR
  have fin : LeavesInM Fence.wide 0 P fn a'.tmps (PostV Γ H w Q) a'.defers .returning w' := by
   refine zho hd hs'.rel hs'.defs fun w2 h1 h2 => ?_
   obtain ⟨v', h3, h4⟩ := zig hC h1 hs'.env hres;exact ⟨v', h3, v', _, h', Γ', rfl, hQ, h1, hadv.trans h2, h4⟩
  cases e <;> cases x <;> simp only [ExR] at hx
  ·exact fin
  ·exact absurd rfl (hne _)
  ·exact fin
end
end Go.Den
namespace Go.Den
def Ga.below (Γ : Ga) (N : Nat) : Ga := fun b => if b % 2 = 1 ∨ b < N then Γ b else none
theorem Ga.below_some {Γ : Ga} {N b : Nat} {i : BI} : Γ.below N b = some i ↔ (b % 2 = 1 ∨ b < N) ∧ Γ b = some i := by
 unfold Ga.below;split
 ·rename_i h; simp [h]
 ·rename_i h; simp [h]
theorem Ga.below_le (Γ : Ga) (N : Nat) : Ga.le (Γ.below N) Γ := fun _ _ h => (Ga.below_some.1 h).2
theorem Ga.below_mono {Γ : Ga} {N M : Nat} (h : N ≤ M) : Ga.le (Γ.below N) (Γ.below M) :=
 fun _ _ hb => Ga.below_some.2 ⟨(Ga.below_some.1 hb).1.imp id (by omega), (Ga.below_some.1 hb).2⟩
theorem Ga.le_below {Γ Γ' : Ga} {N : Nat} (h : Ga.le Γ Γ') : Ga.le (Γ.below N) (Γ'.below N) :=
 fun _ _ hb => Ga.below_some.2 ⟨(Ga.below_some.1 hb).1, h _ _ (Ga.below_some.1 hb).2⟩
theorem Ga.le_below_of {Γ Γ' : Ga} {N : Nat} (h : Ga.le Γ Γ') (hd : ∀ b i, Γ b = some i → b % 2 = 1 ∨ b < N) : Ga.le Γ (Γ'.below N) :=
 fun _ _ hb => Ga.below_some.2 ⟨hd _ _ hb, h _ _ hb⟩
def lastOf (S p : Nat → Bool) : Nat → Option Nat
 | 0 => none
 | n + 1 => if S n && p n then some n else lastOf S p n
theorem zcC {S p : Nat → Bool} : ∀ {n i : Nat}, lastOf S p n = some i → i < n ∧ S i = true ∧ p i = true ∧ ∀ j, i < j → j < n → S j = true → p j = false := by
 intro n
 induction n with
 | zero => intro i h; cases h
 | succ n ih =>
  intro i h;unfold lastOf at h;split at h
  ·rename_i hn; cases h;simp at hn;exact ⟨by omega, hn.1, hn.2, fun j _ _ _ => by omega⟩
  ·rename_i hn;obtain ⟨h1, h2, h3, h4⟩ := ih h;refine ⟨by omega, h2, h3, fun j hj hjn hS => ?_⟩;by_cases e : j = n
   ·subst e; simpa [hS] using hn
   ·exact h4 j hj (by omega) hS
theorem zgV {S p : Nat → Bool} : ∀ {n : Nat}, lastOf S p n = none → ∀ j, j < n → S j = true → p j = false := by
 intro n
 induction n with
 | zero => intro _ j hj; omega
 | succ n ih =>
  intro h j hj hS;unfold lastOf at h;split at h
  ·cases h
  ·rename_i hn;by_cases e : j = n
   ·subst e; simpa [hS] using hn
   ·exact ih h j (by omega) hS
theorem zgW {S p : Nat → Bool} {n i : Nat} (h1 : i < n) (h2 : S i = true) (h3 : p i = true) (h4 : ∀ j, i < j → j < n → S j = true → p j = false) : lastOf S p n = some i := by
 cases h : lastOf S p n with
 | none => have := zgV h i h1 h2; rw [h3] at this; cases this
 | some j =>
  obtain ⟨a1, a2, a3, a4⟩ := zcC h;by_cases e : i = j
  ·rw [e]
  ·by_cases lt : i < j
   ·have := h4 j lt a1 a2; rw [a3] at this; cases this
   ·have := a4 i (by omega) h1 h2; rw [h3] at this; cases this
theorem ziy {S p : Nat → Bool} {n : Nat} (h : ∀ j, j < n → S j = true → p j = false) : lastOf S p n = none := by
 cases h' : lastOf S p n with
 | none => rfl
 | some j => obtain ⟨a1, a2, a3, _⟩ := zcC h'; have := h j a1 a2; rw [a3] at this; cases this
def listing (S : Nat → Bool) (i : Nat) : Nat → Bool := fun j => j == i || S j
theorem zhr {S p : Nat → Bool} {n i : Nat} (hi : i < n) (h : ∀ j, S j = true → p j = true → j < i) : lastOf (listing S i) p n = if p i then some i else lastOf S p n := by
  split
  · rename_i hp;refine zgW hi (by simp [listing]) hp fun j h1 _ h3 => ?_
    have hS : S j = true := by simp [listing] at h3; rcases h3 with h | h; · omega
                               · exact h
    cases hpj : p j with
    | false => rfl
    | true => have := h j hS hpj; omega
  · rename_i hp;have hpi : p i = false := by simpa using hp
    have hne : ∀ j, listing S i j = true → p j = true → S j = true := by
      intro j hj hpj;simp [listing] at hj;rcases hj with e | h
      · subst e; rw [hpi] at hpj; cases hpj
      · exact h
    cases hl : lastOf S p n with
    | none =>
      refine ziy fun j hj hS => ?_
      cases hpj : p j with
      | false => rfl
      | true => have := zgV hl j hj (hne j hS hpj); rw [hpj] at this; cases this
    | some k =>
      obtain ⟨a1, a2, a3, a4⟩ := zcC hl;refine zgW a1 (by simp [listing, a2]) a3 fun j h1 h2 h3 => ?_
      cases hpj : p j with
      | false => rfl
      | true => have := a4 j h1 h2 (hne j h3 hpj); rw [hpj] at this; cases this
section
variable {P : Program} {C : Ctx} {rd : Option Nat} {nt : Nat} {ops : Array Oper}
def dstOf (ops : Array Oper) (i t : Nat) : Bool := (ops[i]?).bind (·.dst) == some t
def pickS {α : Type} (S p : Nat → Bool) (n : Nat) (d : α) (f : Nat → α) : α :=
 match lastOf S p n with
 | none => d
 | some i => f i
theorem zcn {α : Type} {S p : Nat → Bool} {n i : Nat} (hi : i < n) (h : p i = true → ∀ j, S j = true → p j = true → j < i) {d : α} {f : Nat → α} :
  pickS (listing S i) p n d f = if p i then f i else pickS S p n d f := by
 unfold pickS
 cases hp : p i with
 | true => rw [zhr hi (h hp)]; simp [hp]
 | false =>
  have : lastOf (listing S i) p n = lastOf S p n := by
   have key : ∀ m, lastOf (listing S i) p m = lastOf S p m := by
    intro m
    induction m with
    | zero => rfl
    | succ m ih =>
     unfold lastOf;rw [ih];by_cases e : m = i
     ·subst e; simp [hp]
     ·simp [listing, e]
   exact key n
  rw [this]; simp
def Bound (ops : Array Oper) (S : Nat → Bool) (i : Nat) : Prop := ∀ o, ops[i]? = some o → ∀ e ∈ o.after, Region.binds .any e = true → S e.on = true
def Closed (h : AHeap) : Prop := ∀ b, b % 2 = 0 → h.fresh ≤ b → h.get b = none
theorem Rel.closed {Γ : Ga} {H : AHeap} {w : World} (hr : Rel Γ H w) : Closed H := by
 intro b h1 h2
 cases h : H.get b with
 | none => rfl
 | some x =>
  obtain ⟨i, _, hi, _⟩ := hr.blk b x h;have := hr.dom b i hi;omega
structure Ready (ops : Array Oper) (s0 : St) (s' : Nat → St) (S : Nat → Bool) (i : Nat) : Prop where
 closed0 : Closed s0.heap
 closed : ∀ j, S j = true → Closed (s' j).heap
 lt : i < ops.size
 new : S i = false
 bound : Bound ops S i
 down : ∀ j, S j = true → j < ops.size ∧ Bound ops S j
structure DrawOk (ops : Array Oper) (s0 sf : St) (s s' : Nat → St) (tH : Nat → Nat → Bool) : Prop where
 edges : ∀ (i : Nat) o, ops[i]? = some o → ∀ e ∈ o.after, Region.binds .any e = true → e.on < i
 defs : ∀ i, i < ops.size → (s i).defs = s0.defs
 lo : ∀ i, i < ops.size → s0.heap.fresh ≤ (s i).heap.fresh
 mid : ∀ i, i < ops.size → (s i).heap.fresh ≤ (s' i).heap.fresh
 hi : ∀ i j, i < j → j < ops.size → (s' i).heap.fresh ≤ (s j).heap.fresh
 even : ∀ i, i < ops.size → ∀ b, tH i b = true → b % 2 = 0
 quiet : ∀ i, i < ops.size → ∀ b, b % 2 = 0 → tH i b = false → (b < (s i).heap.fresh ∧ b < (s' i).heap.low) ∨ (s' i).heap.fresh ≤ b ∨ (s' i).heap.get b = (s i).heap.get b
 exact : ∀ S i, Ready ops s0 s' S i → ∀ b, tH i b = true → b < s0.heap.fresh → (s i).heap.get b = pickS S (tH · b) ops.size (s0.heap.get b) (fun j => (s' j).heap.get b)
 viewE : ∀ S i, Ready ops s0 s' S i → ∀ t v, (s i).env.get t = some v → pickS S (dstOf ops · t) ops.size (s0.env.get t) (fun j => (s' j).env.get t) = some v ∧
  pickS S (dstOf ops · t) ops.size s0.heap.fresh (fun j => (s' j).heap.fresh) ≤ (s i).heap.fresh
 viewH : ∀ S i, Ready ops s0 s' S i → ∀ b x, (s i).heap.get b = some x → pickS S (tH · b) ops.size (s0.heap.get b) (fun j => (s' j).heap.get b) = some x ∧
  pickS S (tH · b) ops.size s0.heap.fresh (fun j => (s' j).heap.fresh) ≤ (s i).heap.fresh
 lateE : ∀ S i, Ready ops s0 s' S i → ∀ t, dstOf ops i t = true → ∀ j, S j = true → dstOf ops j t = true → j < i
 lateH : ∀ S i, Ready ops s0 s' S i → ∀ b, tH i b = true → ∀ j, S j = true → tH j b = true → j < i
 endE : ∀ t v, sf.env.get t = some v → pickS (fun j => decide (j < ops.size)) (dstOf ops · t) ops.size (s0.env.get t) (fun j => (s' j).env.get t) = some v
 endH : Closed s0.heap → (∀ j, j < ops.size → Closed (s' j).heap) → ∀ b x, sf.heap.get b = some x → pickS (fun j => decide (j < ops.size)) (tH · b) ops.size (s0.heap.get b) (fun j => (s' j).heap.get b) = some x
 endN : ∀ i, i < ops.size → (s' i).heap.fresh ≤ sf.heap.fresh
 end0 : s0.heap.fresh ≤ sf.heap.fresh
 endD : sf.defs = s0.defs
 endL : sf.heap.low ≤ s0.heap.low
 endT : ∀ i b, i < ops.size → tH i b = true → b < s0.heap.fresh → sf.heap.low ≤ (s' i).heap.low
 endX : ∀ b, b % 2 = 1 ∨ b < s0.heap.fresh → sf.heap.get b = pickS (fun j => decide (j < ops.size)) (tH · b) ops.size (s0.heap.get b) (fun j => (s' j).heap.get b)
structure DrawI (ops : Array Oper) (nt : Nat) (s0 : St) (s s' : Nat → St) (tH : Nat → Nat → Bool) (Γ0 : Ga) (a0 : Act) (w0 : World) (S : Nat → Bool) (Γ : Ga) (a : Act) (w : World) : Prop where
 size : a.tmps.size = nt
 defers : a.defers = a0.defers
 ext : ∀ b, b % 2 = 1 ∨ b < s0.heap.fresh → Γ b = Γ0 b
 env : ∀ t v, pickS S (dstOf ops · t) ops.size (s0.env.get t) (fun j => (s' j).env.get t) = some v →
  VR (Γ.below (pickS S (dstOf ops · t) ops.size s0.heap.fresh (fun j => (s' j).heap.fresh))) v (a.tmps.getD t undef)
 dom : ∀ b i, Γ b = some i → b % 2 = 1 ∨ b < s0.heap.fresh ∨ ∃ j, S j = true ∧ j < ops.size ∧ (s j).heap.fresh ≤ b ∧ b < (s' j).heap.fresh
 blk : ∀ b x, pickS S (tH · b) ops.size (s0.heap.get b) (fun j => (s' j).heap.get b) = some x →
  ∃ i o, Γ.below (pickS S (tH · b) ops.size s0.heap.fresh (fun j => (s' j).heap.fresh)) b = some i ∧ w.heap[i.real]? = some o ∧
   ObjR (Γ.below (pickS S (tH · b) ops.size s0.heap.fresh (fun j => (s' j).heap.fresh))) i x o
 ownd : ∀ b x, pickS S (tH · b) ops.size (s0.heap.get b) (fun j => (s' j).heap.get b) = some x → own b = true → x.isOwn = true
 sep : ∀ b b' x x' i i', pickS S (tH · b) ops.size (s0.heap.get b) (fun j => (s' j).heap.get b) = some x → pickS S (tH · b') ops.size (s0.heap.get b') (fun j => (s' j).heap.get b') = some x' →
  Γ b = some i → Γ b' = some i' → x.isOwn = true → b ≠ b' → i.real ≠ i'.real
 hsize : w0.heap.size ≤ w.heap.size
 keep : ∀ r, r < w0.heap.size → ¬ Mine Γ0 s0.heap r → w.heap[r]? = w0.heap[r]?
 mine : ∀ b x i, pickS S (tH · b) ops.size (s0.heap.get b) (fun j => (s' j).heap.get b) = some x → x.isOwn = true → Γ b = some i → w0.heap.size ≤ i.real ∨ Mine Γ0 s0.heap i.real
 os : w.os = w0.os
 tape : w.tape = w0.tape
 output : w.output = w0.output
 closed0 : Closed s0.heap
 closed : ∀ j, S j = true → Closed (s' j).heap
 fr : ∀ b, b % 2 = 1 ∨ (b < s0.heap.fresh ∧ ∀ j, j < ops.size → S j = true → tH j b = true → b < (s' j).heap.low) → pickS S (tH · b) ops.size (s0.heap.get b) (fun j => (s' j).heap.get b) = s0.heap.get b
theorem zfN (p : Nat → Bool) : ∀ n, lastOf (fun _ => false) p n = none
 | 0 => rfl
 | n + 1 => by simp [lastOf, zfN p n]
theorem zbx {α : Type} (p : Nat → Bool) (n : Nat) (d : α) (f : Nat → α) : pickS (fun _ => false) p n d f = d := by
 simp [pickS, zfN]
theorem zkz {s0 : St} {s s' : Nat → St} {tH : Nat → Nat → Bool} {Γ : Ga} {a : Act} {w w' : World} (hs : StR Γ s0 nt a w) (hh : w'.heap = w.heap) (h1 : w'.os = w.os) (h2 : w'.tape = w.tape) (h3 : w'.output = w.output) :
  DrawI ops nt s0 s s' tH Γ a w (fun _ => false) Γ a w' := by
 have hle : Ga.le Γ (Γ.below s0.heap.fresh) := Ga.le_below_of (Ga.le.refl _) hs.rel.dom;refine ⟨hs.env.size, rfl, fun _ _ => rfl, ?_, ?_, ?_, ?_, ?_, by rw [hh]; exact Nat.le_refl _, fun _ _ _ => by rw [hh], ?_, h1, h2, h3, hs.rel.closed, fun _ h => (by cases h), fun b _ => zbx _ _ _ _⟩
 ·intro t v hv;rw [zbx] at hv ⊢;exact (hs.env.val t v hv).mono hle
 ·intro b i hb;exact (hs.rel.dom b i hb).imp id .inl
 ·intro b x hb;rw [zbx] at hb ⊢;obtain ⟨i, o, ha, hb, hc⟩ := hs.rel.blk b x hb;exact ⟨i, o, hle _ _ ha, by rw [hh]; exact hb, hc.mono hle⟩
 ·intro b x hb;rw [zbx] at hb;exact hs.rel.ownd b x hb
 ·intro b b' x x' i i' hb hb';rw [zbx] at hb hb';exact hs.rel.sep b b' x x' i i' hb hb'
 ·intro b x i hb hown hi;rw [zbx] at hb;exact .inr ⟨b, x, i, hb, hown, hi, rfl⟩
theorem VR.restrict {Γ Γ' : Ga} (hle : Ga.le Γ Γ') {v v1 v2 : Value} (h : VR Γ v v1) : VR Γ' v v2 → VR Γ v v2 := by
 have key : ∀ v2, VR Γ' v v2 → VR Γ v v2 := by
  refine VR.rec (motive_1 := fun v v' _ => ∀ v2, VR Γ' v v2 → VR Γ v v2) (motive_2 := fun l l' _ => ∀ l2, All2 (VR Γ') l l2 → All2 (VR Γ) l l2)
   ?_ ?_ ?_ ?_ ?_ ?_ ?_ ?_ ?_ ?_ ?_ ?_ ?_ ?_ ?_ ?_ ?_ ?_ ?_ ?_ h
  ·intro b v2 h; cases h; exact .bool b
  ·intro k n v2 h; cases h; exact .int k n
  ·intro b v2 h; cases h; exact .string b
  ·intro v2 h; cases h; exact .ptrN
  ·intro b o i hb v2 h
   cases h with
   | ptr hb' => rw [hle _ _ hb] at hb'; cases hb'; exact .ptr hb
  ·intro n c v2 h; cases h; exact .sliceN n c
  ·intro a v2 h; cases h; exact .sliceZ _
  ·intro a c v2 h; cases h; exact .sliceE _ _
  ·intro b o n c c' i hb hc v2 h
   cases h with
   | slice hb' hc' => rw [hle _ _ hb] at hb'; cases hb'; exact .slice hb hc'
  ·intro v2 h; cases h; exact .mapN
  ·intro r i hb v2 h
   cases h with
   | map hb' => rw [hle _ _ hb] at hb'; cases hb'; exact .map hb
  ·intro g a a' b b' _ _ h1 h2 v2 h
   cases h with
   | func ha hb => exact .func (h1 _ ha) (h2 _ hb)
  ·intro l i a a' b b' hb _ _ h1 h2 v2 h
   cases h with
   | yield hb' ha hb2 => rw [hle _ _ hb] at hb'; cases hb'; exact .yield hb (h1 _ ha) (h2 _ hb2)
  ·intro v2 h; cases h; exact .nilFunc
  ·intro v2 h; cases h; exact .nilIface
  ·intro t v v' _ h1 v2 h
   cases h with
   | iface h => exact .iface (h1 _ h)
  ·intro l l' _ h1 v2 h
   cases h with
   | agg h => exact .agg (h1 _ h)
  ·intro l l' _ h1 v2 h
   cases h with
   | tuple h => exact .tuple (h1 _ h)
  ·intro l2 h; cases h; exact .nil
  ·intro a b l m _ _ h1 h2 l2 h
   cases h with
   | cons h h' => exact .cons (h1 _ h) (h2 _ h')
 exact key v2
theorem EnvR.restrict {Γ Γ' : Ga} (hle : Ga.le Γ Γ') {e : Env} {n n' : Nat} {t1 t2 : Array Value} (h : EnvR Γ e n t1) (h2 : EnvR Γ' e n' t2) : EnvR Γ e n' t2 :=
 ⟨h2.size, h.glob, fun t v hv => (h.val t v hv).restrict hle (h2.val t v hv)⟩
theorem ObjR.restrict {Γ Γ' : Ga} (hle : Ga.le Γ Γ') {i : BI} {x : ABlk} {o1 o2 : Obj} (h : ObjR Γ i x o1) (h2 : ObjR Γ' i x o2) : ObjR Γ i x o2 := by
 cases x with
 | cells cs esz slack ro =>
  obtain ⟨rc, e, fz, a1, a2, a3, a4, a5, a6, a7, a8, a9⟩ := h;obtain ⟨rc2, e2, fz2, b1, b2, b3, b4, b5, b6, b7, b8, b9⟩ := h2;refine ⟨rc2, e2, fz2, b1, b2, b3, b4, b5, b6, b7, b8, fun k v hk => ?_⟩;obtain ⟨v1, _, hv1⟩ := a9 k v hk;obtain ⟨v2, hg, hv2⟩ := b9 k v hk
  exact ⟨v2, hg, hv1.restrict hle hv2⟩
 | map es clock ro =>
  obtain ⟨es1, _, h1⟩ := h;obtain ⟨es2, e2, h2⟩ := h2;refine ⟨es2, e2, All2.mk h2.length fun k e he => ?_⟩;obtain ⟨x1, _, y1⟩ := h1.get he;obtain ⟨x2, g2, y2⟩ := h2.get he
  exact ⟨x2, g2, ⟨y1.key.restrict hle y2.key, y1.val.restrict hle y2.val, y2.born⟩⟩
 | siter s pos => exact h2
 | miter m since seen stepped =>
  cases m with
  | none => exact h2
  | some m =>
   obtain ⟨_, j, hj, _⟩ := h;obtain ⟨h0, j2, hj2, e⟩ := h2;rw [hle _ _ hj] at hj2; cases hj2
   exact ⟨h0, j, hj, e⟩
 | loop l =>
  obtain ⟨l1, _, h1⟩ := h;obtain ⟨l2, e2, h2⟩ := h2;obtain ⟨j, d1, _⟩ := h1.defers;obtain ⟨j2, d2, d3⟩ := h2.defers;rw [hle _ _ d1] at d2; cases d2
  exact ⟨l2, e2, ⟨h2.state, h2.pending, h1.env.restrict hle h2.env, h2.params, h2.assign, h2.body, ⟨j, d1, d3⟩⟩⟩
 | defd => exact h2
section
variable {s0 sf : St} {s s' : Nat → St} {tH : Nat → Nat → Bool} {Γ0 : Ga} {a0 : Act} {w0 : World} {S : Nat → Bool} {Γ : Ga} {a : Act} {w : World} {i : Nat}
theorem zm3 (hd : DrawOk ops s0 sf s s' tH) (h0 : StR Γ0 s0 nt a0 w0) (hI : DrawI ops nt s0 s s' tH Γ0 a0 w0 S Γ a w) (hr : Ready ops s0 s' S i) :
  StR (Γ.below (s i).heap.fresh) (s i) nt a w := by
 refine ⟨⟨?_, ?_, ?_, ?_⟩, ⟨hI.size, ?_, ?_⟩, ?_⟩
 ·intro b j hb;exact (Ga.below_some.1 hb).1
 ·intro b x hb;obtain ⟨h1, h2⟩ := hd.viewH S i hr b x hb;obtain ⟨j, o, a1, a2, a3⟩ := hI.blk b x h1;exact ⟨j, o, Ga.below_mono h2 _ _ a1, a2, a3.mono (Ga.below_mono h2)⟩
 ·intro b x hb;exact hI.ownd b x (hd.viewH S i hr b x hb).1
 ·intro b b' x x' j j' hb hb' hj hj';exact hI.sep b b' x x' j j' (hd.viewH S i hr b x hb).1 (hd.viewH S i hr b' x' hb').1 (Ga.below_some.1 hj).2 (Ga.below_some.1 hj').2
 ·intro g hg;obtain ⟨j, h1, h2, h3⟩ := h0.env.glob g hg;exact ⟨j, Ga.below_some.2 ⟨.inl (by omega), by rw [hI.ext _ (.inl (by omega))]; exact h1⟩, h2, h3⟩
 ·intro t v hv;obtain ⟨h1, h2⟩ := hd.viewE S i hr t v hv;exact (hI.env t v h1).mono (Ga.below_mono h2)
 ·rw [hd.defs i hr.lt, hI.defers];refine h0.defs.imp fun d df ⟨j, h1, h2⟩ => ⟨j, ?_, h2⟩
  have hdom := h0.rel.dom d j h1;have := hd.lo i hr.lt;exact Ga.below_some.2 ⟨hdom.imp id (by omega), by rw [hI.ext d hdom]; exact h1⟩
theorem zm4 (hd : DrawOk ops s0 sf s s' tH) (hI : DrawI ops nt s0 s s' tH Γ0 a0 w0 S Γ a w) (hr : Ready ops s0 s' S i) {Γ' : Ga} {a' : Act} {w' : World}
  (hs : StR Γ' (s' i) nt a' w') (ha : Adv (Γ.below (s i).heap.fresh) (s i).heap w Γ' (s' i).heap w') {o : Oper} {v' : Value} (ho : ops[i]? = some o) (hput : a' = a.put o.dst v') :
  ∃ Γ'', DrawI ops nt s0 s s' tH Γ0 a0 w0 (listing S i) Γ'' a' w' := by
 have hlo := hd.lo i hr.lt;have hmid := hd.mid i hr.lt
 have same : ∀ b, tH i b = false → (s' i).heap.get b = (s i).heap.get b := by
  intro b ht;by_cases hp : b % 2 = 1
  ·exact ha.kept.get b (.inl hp)
  ·rcases hd.quiet i hr.lt b (by omega) ht with h | h
   ·exact ha.kept.get b (.inr h)
   rcases h with h | h
   case inr => exact h
   ·rw [hs.rel.closed b (by omega) h]
    cases hv : (s i).heap.get b with
    | none => rfl
    | some x =>
     obtain ⟨h1, h2⟩ := hd.viewH S i hr b x hv;obtain ⟨k, _, h3, _⟩ := hI.blk b x h1;have := (Ga.below_some.1 h3).1;omega
 let G : Ga := fun b => if b % 2 = 0 ∧ (s i).heap.fresh ≤ b ∧ b < (s' i).heap.fresh then Γ' b else Γ b
 have F1 : Ga.le Γ G := by
  intro b k hb;show (if _ then _ else _) = _;rw [if_neg]
  ·exact hb
  ·rintro ⟨e, l1, l2⟩
   rcases hI.dom b k hb with h | h | ⟨j, hj, hjn, l3, l4⟩
   ·omega
   ·omega
   ·have hne : j ≠ i := by intro e; subst e; rw [hr.new] at hj; cases hj
    by_cases hlt : j < i
    ·have := hd.hi j i hlt hr.lt; omega
    ·have := hd.hi i j (by omega) hjn; omega
 have F0 : ∀ b k, Γ' b = some k → b % 2 = 1 ∨ b < (s i).heap.fresh → Γ b = some k := by
  intro b k hb ho;rw [ha.ext b ho] at hb;exact (Ga.below_some.1 hb).2
 have F2 : Ga.le Γ' G := by
  intro b k hb;show (if _ then _ else _) = _;split
  ·exact hb
  ·rename_i hn;have := hs.rel.dom b k hb;refine F0 b k hb ?_;rcases this with h | h
   ·exact .inl h
   ·by_cases e : b % 2 = 1
    ·exact .inl e
    ·exact .inr (by omega)
 have F3 : Ga.le Γ' (G.below (s' i).heap.fresh) := Ga.le_below_of F2 hs.rel.dom
 have eE : ∀ t {α : Type} (d : α) (f : Nat → α), pickS (listing S i) (dstOf ops · t) ops.size d f = if dstOf ops i t then f i else pickS S (dstOf ops · t) ops.size d f :=
  fun t _ d f => zcn hr.lt fun h j => hd.lateE S i hr t h j
 have eH : ∀ b {α : Type} (d : α) (f : Nat → α), pickS (listing S i) (tH · b) ops.size d f = if tH i b then f i else pickS S (tH · b) ops.size d f :=
  fun b _ d f => zcn hr.lt fun h j => hd.lateH S i hr b h j
 -- where a block lies
 have old : ∀ b x, pickS S (tH · b) ops.size (s0.heap.get b) (fun j => (s' j).heap.get b) = some x → ∃ k o, Γ b = some k ∧ w.heap[k.real]? = some o ∧ k.real < w.heap.size := by
  intro b x hb;obtain ⟨k, o, h1, h2, _⟩ := hI.blk b x hb;exact ⟨k, o, (Ga.below_some.1 h1).2, h2, (Array.getElem?_eq_some_iff.1 h2).1⟩
 have mineOld : ∀ r, Mine (Γ.below (s i).heap.fresh) (s i).heap r → ∃ b x k, (s i).heap.get b = some x ∧ pickS S (tH · b) ops.size (s0.heap.get b) (fun j => (s' j).heap.get b) = some x ∧ x.isOwn = true ∧ Γ b = some k ∧ k.real = r := by
  rintro r ⟨b, x, k, hb, hown, hk, hkr⟩
  exact ⟨b, x, k, hb, (hd.viewH S i hr b x hb).1, hown, (Ga.below_some.1 hk).2, hkr⟩
 have place : ∀ b x, (if tH i b then (s' i).heap.get b else pickS S (tH · b) ops.size (s0.heap.get b) (fun j => (s' j).heap.get b)) = some x → ∀ k, G b = some k →
   ((s' i).heap.get b = some x ∧ Γ' b = some k) ∨ (tH i b = false ∧ (s i).heap.get b = none ∧ pickS S (tH · b) ops.size (s0.heap.get b) (fun j => (s' j).heap.get b) = some x ∧ Γ b = some k) := by
  intro b x hb k hk
  have inV : (s' i).heap.get b = some x → Γ' b = some k := by
   intro h;obtain ⟨k1, _, h1, _⟩ := hs.rel.blk b x h;have := F2 _ _ h1;rw [hk] at this; cases this; exact h1
  split at hb
  ·exact .inl ⟨hb, inV hb⟩
  ·rename_i hn;have hn' : tH i b = false := by simpa using hn
   cases hv : (s i).heap.get b with
   | none =>
    obtain ⟨k1, _, h1, _⟩ := old b x hb;have := F1 _ _ h1;rw [hk] at this; cases this
    exact .inr ⟨hn', rfl, hb, h1⟩
   | some y =>
    have := (hd.viewH S i hr b y hv).1;rw [hb] at this; cases this;have h2 : (s' i).heap.get b = some x := by rw [same b hn']; exact hv
    exact .inl ⟨h2, inV h2⟩
 have apart : ∀ b x k, (s' i).heap.get b = some x → Γ' b = some k → x.isOwn = true → ∀ b' x' k', (s i).heap.get b' = none → pickS S (tH · b') ops.size (s0.heap.get b') (fun j => (s' j).heap.get b') = some x' → Γ b' = some k' → k.real ≠ k'.real := by
  intro b x k hb hk hown b' x' k' hn hb' hk';obtain ⟨k1, _, h1, _, h2⟩ := old b' x' hb';rw [hk'] at h1; cases h1;rcases ha.mine k.real ⟨b, x, k, hb, hown, hk, rfl⟩ with h | h
  ·omega
  ·obtain ⟨b3, x3, k3, g1, g2, g3, g4, g5⟩ := mineOld _ h;have hne : b3 ≠ b' := by intro e; subst e; rw [hn] at g1; cases g1
   have := hI.sep b3 b' x3 x' k3 k' g2 hb' g4 hk' g3 hne;omega
 refine ⟨G, hs.env.size, ?_, ?_, ?_, ?_, ?_, ?_, ?_, Nat.le_trans hI.hsize ha.size, ?_, ?_, ha.os.trans hI.os, ha.tape.trans hI.tape, ha.output.trans hI.output, hI.closed0, ?_, ?_⟩
 ·rw [hput, ← hI.defers];unfold Act.put; cases o.dst <;> rfl
 ·intro b hb;show (if _ then _ else _) = _;rw [if_neg (by rintro ⟨e, l, _⟩; omega)];exact hI.ext b hb
 ·intro t v hv;rw [eE] at hv ⊢;split at hv
  ·rename_i hp;rw [if_pos hp];exact (hs.env.val t v hv).mono F3
  ·rename_i hp;rw [if_neg hp];have h1 := (hI.env t v hv).mono (Ga.le_below F1)
   have h2 : a'.tmps.getD t undef = a.tmps.getD t undef := by
    rw [hput];unfold Act.put
    cases hdst : o.dst with
    | none => rfl
    | some d =>
     have hne : d ≠ t := by
      intro e; subst e;apply hp;simp [dstOf, ho, hdst]
     simp only [Array.getD_eq_getD_getElem?, Array.getElem?_setIfInBounds_ne hne]
   rw [h2]; exact h1
 ·intro b k hb;by_cases hc : b % 2 = 0 ∧ (s i).heap.fresh ≤ b ∧ b < (s' i).heap.fresh
  ·exact .inr (.inr ⟨i, by simp [listing], hr.lt, hc.2⟩)
  ·have : Γ b = some k := by
    have h : (if b % 2 = 0 ∧ (s i).heap.fresh ≤ b ∧ b < (s' i).heap.fresh then Γ' b else Γ b) = some k := hb
    rwa [if_neg hc] at h
   rcases hI.dom b k this with h | h | ⟨j, hj, h⟩
   ·exact .inl h
   ·exact .inr (.inl h)
   ·exact .inr (.inr ⟨j, by simp [listing, hj], h⟩)
 ·intro b x hb;rw [eH] at hb ⊢;split at hb
  ·rename_i hp;rw [if_pos hp];obtain ⟨k, o, h1, h2, h3⟩ := hs.rel.blk b x hb;exact ⟨k, o, F3 _ _ h1, h2, h3.mono F3⟩
  ·rename_i hp;rw [if_neg hp];obtain ⟨k, o1, h1, h2, h3⟩ := hI.blk b x hb;have hp' : tH i b = false := by simpa using hp
   cases hv : (s i).heap.get b with
   | none =>
    refine ⟨k, o1, Ga.le_below F1 _ _ h1, ?_, h3.mono (Ga.le_below F1)⟩;rw [ha.keep k.real (Array.getElem?_eq_some_iff.1 h2).1]
    ·exact h2
    ·intro hm;obtain ⟨b3, x3, k3, g1, g2, g3, g4, g5⟩ := mineOld _ hm;have hne : b3 ≠ b := by intro e; subst e; rw [hv] at g1; cases g1
     exact hI.sep b3 b x3 x k3 k g2 hb g4 (Ga.below_some.1 h1).2 g3 hne g5
   | some y =>
    obtain ⟨g1, g2⟩ := hd.viewH S i hr b y hv;rw [hb] at g1; cases g1;have hv' : (s' i).heap.get b = some x := by rw [same b hp']; exact hv
    obtain ⟨k1, o2, q1, q2, q3⟩ := hs.rel.blk b x hv';have hk : Γ b = some k1 := F0 b k1 q1 ((Ga.below_some.1 h1).1.imp id (by omega));rw [(Ga.below_some.1 h1).2] at hk; cases hk;refine ⟨k, o2, Ga.le_below F1 _ _ h1, q2, ?_⟩;exact (h3.mono (Ga.le_below F1)).restrict (Ga.below_le G _) (q3.mono F2)
 ·intro b x hb hob;rw [eH] at hb;split at hb
  ·exact hs.rel.ownd b x hb hob
  ·exact hI.ownd b x hb hob
 ·intro b b' x x' k k' hb hb' hk hk' hown hne;rw [eH] at hb hb';rcases place b x hb k hk with ⟨p1, p2⟩ | ⟨p0, p1, p2, p3⟩ <;> rcases place b' x' hb' k' hk' with ⟨q1, q2⟩ | ⟨q0, q1, q2, q3⟩
  ·exact hs.rel.sep b b' x x' k k' p1 q1 p2 q2 hown hne
  ·exact apart b x k p1 p2 hown b' x' k' q1 q2 q3
  ·cases hx' : x'.isOwn with
   | true => exact fun e => apart b' x' k' q1 q2 hx' b x k p1 p2 p3 e.symm
   | false =>
    have hodd : b' % 2 = 1 := by
     by_cases e : own b' = true
     ·have := hs.rel.ownd b' x' q1 e; rw [hx'] at this; cases this
     ·rw [zao] at e; omega
    have ht : tH i b' = false := by
     cases h : tH i b' with
     | false => rfl
     | true => have := hd.even i hr.lt b' h; omega
    have hv : (s i).heap.get b' = some x' := by rw [← same b' ht]; exact q1
    exact hI.sep b b' x x' k k' p2 (hd.viewH S i hr b' x' hv).1 p3 (F0 b' k' q2 (.inl hodd)) hown hne
  ·exact hI.sep b b' x x' k k' p2 q2 p3 q3 hown hne
 ·intro r hlt hm;rw [ha.keep r (Nat.lt_of_lt_of_le hlt hI.hsize)]
  ·exact hI.keep r hlt hm
  ·intro hm';obtain ⟨b3, x3, k3, g1, g2, g3, g4, g5⟩ := mineOld _ hm';rcases hI.mine b3 x3 k3 g2 g3 g4 with h | h
   ·omega
   ·rw [g5] at h; exact hm h
 ·intro b x k hb hown hk;rw [eH] at hb;rcases place b x hb k hk with ⟨p1, p2⟩ | ⟨p0, p1, p2, p3⟩
  ·rcases ha.mine k.real ⟨b, x, k, p1, hown, p2, rfl⟩ with h | h
   ·exact .inl (Nat.le_trans hI.hsize h)
   ·obtain ⟨b3, x3, k3, g1, g2, g3, g4, g5⟩ := mineOld _ h;rw [← g5]; exact hI.mine b3 x3 k3 g2 g3 g4
  ·exact hI.mine b x k p2 hown p3
 ·intro j hj;simp only [listing, Bool.or_eq_true, beq_iff_eq] at hj;rcases hj with e | h
  ·subst e; exact hs.rel.closed
  ·exact hI.closed j h
 ·intro b hb;rw [eH]
  have hb' : b % 2 = 1 ∨ (b < s0.heap.fresh ∧ ∀ j, j < ops.size → S j = true → tH j b = true → b < (s' j).heap.low) :=
   hb.imp (fun h => h) fun h => ⟨h.1, fun j hj hS => h.2 j hj (by simp [listing, hS])⟩
  split
  ·rename_i ht;have hev := hd.even i hr.lt b ht;have hlow := hb.resolve_left (by omega);have h1 := hlow.2 i hr.lt (by simp [listing]) ht;rw [ha.kept.get b (.inr ⟨by omega, h1⟩), hd.exact S i hr b ht hlow.1];exact hI.fr b hb'
  ·exact hI.fr b hb'
theorem zpj (hd : DrawOk ops s0 sf s s' tH) (h0 : StR Γ0 s0 nt a0 w0) (hI : DrawI ops nt s0 s s' tH Γ0 a0 w0 (fun j => decide (j < ops.size)) Γ a w) :
  StR Γ sf nt a w ∧ Adv Γ0 s0.heap w0 Γ sf.heap w := by
 have hE := hd.endH hI.closed0 fun j hj => hI.closed j (by simpa using hj)
 have hdom : ∀ b k, Γ b = some k → b % 2 = 1 ∨ b < sf.heap.fresh := by
  intro b k hb;have := hd.end0;rcases hI.dom b k hb with h | h | ⟨j, _, hj, _, h⟩
  ·exact .inl h
  ·exact .inr (by omega)
  ·have := hd.endN j hj; exact .inr (by omega)
 refine ⟨⟨⟨hdom, ?_, ?_, ?_⟩, ⟨hI.size, ?_, ?_⟩, ?_⟩, ⟨hI.ext, hd.end0, hI.hsize, hI.keep, ?_, hI.os, hI.tape, hI.output, hd.endL, ?_⟩⟩
 ·intro b x hb;obtain ⟨k, o, h1, h2, h3⟩ := hI.blk b x (hE b x hb);exact ⟨k, o, (Ga.below_some.1 h1).2, h2, h3.mono (Ga.below_le _ _)⟩
 ·intro b x hb;exact hI.ownd b x (hE b x hb)
 ·intro b b' x x' k k' hb hb';exact hI.sep b b' x x' k k' (hE b x hb) (hE b' x' hb')
 ·intro g hg;obtain ⟨j, h1, h2, h3⟩ := h0.env.glob g hg;exact ⟨j, by rw [hI.ext _ (.inl (by omega))]; exact h1, h2, h3⟩
 ·intro t v hv;exact (hI.env t v (hd.endE t v hv)).mono (Ga.below_le _ _)
 ·rw [hd.endD, hI.defers];exact h0.defs.imp fun d df ⟨j, h1, h2⟩ => ⟨j, by rw [hI.ext d (h0.rel.dom d j h1)]; exact h1, h2⟩
 ·rintro r ⟨b, x, k, hb, hown, hk, rfl⟩
  exact hI.mine b x k (hE b x hb) hown hk
 ·intro b hb;rw [hd.endX b (hb.imp (fun h => h) (fun h => h.1))];refine hI.fr b (hb.imp (fun h => h) fun h => ⟨h.1, fun j hj _ ht => ?_⟩);have := hd.endT j b hj ht h.1;omega
def cntS (S : Nat → Bool) : Nat → Nat
 | 0 => 0
 | n + 1 => cntS S n + (if S n then 0 else 1)
theorem zjR {i : Nat} (h : S i = false) : ∀ {n : Nat}, i < n → cntS (listing S i) n + 1 = cntS S n := by
 have same : ∀ m, m ≤ i → cntS (listing S i) m = cntS S m := by
  intro m
  induction m with
  | zero => intro _; rfl
  | succ m ih =>
   intro hm;have : ¬ m = i := by omega
   simp [cntS, ih (by omega), listing, this]
 intro n
 induction n with
 | zero => intro hi; omega
 | succ n ih =>
  intro hi;by_cases e : i = n
  ·subst e;simp [cntS, same i (Nat.le_refl _), listing, h]
  ·have := ih (by omega);have hne : ¬ n = i := fun h => e h.symm
   simp only [cntS];have h2 : listing S i n = S n := by simp [listing, hne]
   rw [h2]; omega
theorem zpy : ∀ {n : Nat}, cntS S n = 0 → ∀ j, j < n → S j = true := by
 intro n
 induction n with
 | zero => intro _ j hj; omega
 | succ n ih =>
  intro h j hj;unfold cntS at h;by_cases e : j = n
  ·subst e
   cases hS : S j with
   | true => rfl
   | false => rw [hS] at h; simp at h
  ·exact ih (by omega) j (by omega)
theorem zf0 {listed : Array Bool} (hsz : listed.size = ops.size) (he : ∀ (i : Nat) o, ops[i]? = some o → ∀ e ∈ o.after, Region.binds .any e = true → e.on < i) (h : Region.ready .any ops listed = []) :
  ∀ j, j < ops.size → listed.getD j false = true := by
 intro j
 induction j using Nat.strongRecOn with
 | _ j ih =>
  intro hj
  cases hl : listed.getD j false with
  | true => rfl
  | false =>
   have : j ∈ Region.ready .any ops listed := by
    unfold Region.ready;rw [List.mem_filter];refine ⟨List.mem_range.2 hj, ?_⟩
    have h1 : listed.getD j true = false := by
     simp only [Array.getD_eq_getD_getElem?] at hl ⊢;rw [Array.getElem?_eq_getElem (by omega)] at hl ⊢;simpa using hl
    rw [h1];simp only [Bool.not_false, Bool.true_and];rw [Array.getElem?_eq_getElem hj];simp only [Option.map_some, Option.getD_some];rw [Array.all_eq_true_iff_forall_mem];intro e hm
    cases hb : Region.binds .any e with
    | false => rfl
    | true =>
     have hlt := he j _ (Array.getElem?_eq_getElem hj) e hm hb;simp [ih e.on hlt (by omega)]
   rw [h] at this; cases this
theorem zh1 (hm : P.follows .mixedOrders = true) (hd : DrawOk ops s0 sf s s' tH) (hop : ∀ i, i < ops.size → OpT P rd nt ops i (s i) (fun x => x = s' i)) {id : Nat} {Q : Ex → St → Prop} (hQ : Q .normal sf) :
  CodeT P rd nt (.region id ops true) s0 Q := by
 intro Γ0 F a0 w0 h0 hF;refine wpIn_region_any hm ?_
 have key : ∀ (fuel : Nat) (listed : Array Bool) (Γ : Ga) (a : Act) (w : World), listed.size = ops.size → cntS (fun j => listed.getD j false) ops.size = fuel →
   (∀ j, listed.getD j false = true → j < ops.size ∧ Bound ops (fun j => listed.getD j false) j) → DrawI ops nt s0 s s' tH Γ0 a0 w0 (fun j => listed.getD j false) Γ a w →
   wpAnyIn F 0 P .any ops (PostC Γ0 s0 nt w0 Q) fuel listed a w := by
  intro fuel
  have fin : ∀ (listed : Array Bool) (Γ : Ga) (a : Act) (w : World), listed.size = ops.size → (∀ j, j < ops.size → listed.getD j false = true) → DrawI ops nt s0 s s' tH Γ0 a0 w0 (fun j => listed.getD j false) Γ a w → PostC Γ0 s0 nt w0 Q .normal a w := by
   intro listed Γ a w hsz hall hI
   have : (fun j => listed.getD j false) = fun j => decide (j < ops.size) := by
    funext j
    by_cases hj : j < ops.size
    ·rw [hall j hj]; simp [hj]
    ·simp [hj, Array.getD_eq_getD_getElem?, Array.getElem?_eq_none (show listed.size ≤ j by omega)]
   rw [this] at hI;obtain ⟨h1, h2⟩ := zpj hd h0 hI;exact ⟨.normal, sf, Γ, trivial, hQ, h1, h2⟩
  induction fuel with
  | zero =>
   intro listed Γ a w hsz hc hdown hI;have hall := zpy hc;refine ⟨?_, fin listed Γ a w hsz hall hI⟩;unfold Region.ready;rw [List.filter_eq_nil_iff];intro j hj;have hj' := List.mem_range.1 hj;have := hall j hj';simp only [Array.getD_eq_getD_getElem?] at this ⊢;rw [Array.getElem?_eq_getElem (by omega)] at this ⊢;simp at this
   simp [this]
  | succ fuel ih =>
   intro listed Γ a w hsz hc hdown hI;refine ⟨fun hn => fin listed Γ a w hsz (zf0 hsz hd.edges hn) hI, fun i hi => ?_⟩;unfold Region.ready at hi;rw [List.mem_filter] at hi;obtain ⟨hi, hi2⟩ := hi;have hlt := List.mem_range.1 hi;rw [Bool.and_eq_true] at hi2;obtain ⟨hl, hb⟩ := hi2
   have hnew : listed.getD i false = false := by
    simp only [Array.getD_eq_getD_getElem?] at hl ⊢;rw [Array.getElem?_eq_getElem (by omega)] at hl ⊢;simpa using hl
   have hbound : Bound ops (fun j => listed.getD j false) i := by
    intro o ho e he hbe;rw [ho] at hb;simp only [Option.map_some, Option.getD_some] at hb;rw [Array.all_eq_true_iff_forall_mem] at hb;have := hb e he;simpa [hbe] using this
   have hr : Ready ops s0 s' (fun j => listed.getD j false) i := ⟨hI.closed0, hI.closed, hlt, hnew, hbound, hdown⟩
   have hlisting : (fun j => (listed.setIfInBounds i true).getD j false) = listing (fun j => listed.getD j false) i := by
    funext j
    simp only [listing, Array.getD_eq_getD_getElem?, Array.getElem?_setIfInBounds];by_cases e : i = j
    ·subst e; simp [hsz, hlt]
    ·have : ¬ j = i := fun h => e h.symm
     simp [e, this]
   have hv := zm3 hd h0 hI hr
   have hF' : FenceR (Γ.below (s i).heap.fresh) rd F := by
    have hlo := hd.lo i hlt
    cases rd with
    | none => exact hF
    | some l =>
     obtain ⟨k, h1, h2⟩ := hF;have hdom := h0.rel.dom l k h1;exact ⟨k, Ga.below_some.2 ⟨hdom.imp (fun h => h) (by omega), by rw [hI.ext l hdom]; exact h1⟩, h2⟩
   refine hop i hlt _ F a w hv hF' _ _ ?_
   rintro s1 Γ' a' w' rfl hs1 hadv ⟨o, v', ho, hput⟩
   obtain ⟨Γ'', hI'⟩ := zm4 hd hI hr hs1 hadv ho hput
   have hmono : ∀ j, Bound ops (fun j => listed.getD j false) j → Bound ops (listing (fun j => listed.getD j false) i) j :=
    fun j hb o ho e he hbe => by simp [listing, hb o ho e he hbe]
   refine ih _ Γ'' a' w' (by simp [hsz]) ?_ ?_ ?_
   ·rw [hlisting];have := zjR (S := fun j => listed.getD j false) hnew hlt;omega
   ·intro j hj;have hj' : listing (fun j => listed.getD j false) i j = true := by rw [← hlisting]; exact hj
    rw [hlisting];simp only [listing, Bool.or_eq_true, beq_iff_eq] at hj';rcases hj' with e | h
    ·subst e; exact ⟨hlt, hmono _ hbound⟩
    ·exact ⟨(hdown j h).1, hmono j (hdown j h).2⟩
   ·rw [hlisting]; exact hI'
 have hrep : (fun j => (Array.replicate ops.size false).getD j false) = fun _ => false := by
  funext j
  simp only [Array.getD_eq_getD_getElem?, Array.getElem?_replicate];split <;> rfl
 have hcnt : ∀ n, cntS (fun _ => false) n = n := by
  intro n
  induction n with
  | zero => rfl
  | succ n ih => simp [cntS, ih]
 refine key ops.size (Array.replicate ops.size false) Γ0 a0 _ (by simp) ?_ ?_ ?_
 ·rw [hrep]; exact hcnt _
 ·intro j hj;have := congrFun hrep j;rw [this] at hj; cases hj
 ·rw [hrep];exact zkz h0 rfl rfl rfl rfl
end
end
end Go.Den
namespace Go.Den
section
variable {Γ Γ' : Ga} {τ : Nat → Option Nat}
theorem zmF {f : Value → Option Value} (hf : ∀ v v2 v', f v = some v2 → VR Γ v v' → VR Γ' v2 v') : ∀ {l l2 l' : List Value}, renL f l = some l2 → All2 (VR Γ) l l' → All2 (VR Γ') l2 l' := by
 intro l
 induction l with
 | nil => intro l2 l' h h'; cases h'; simp only [renL] at h; cases h; exact .nil
 | cons v r ih =>
  intro l2 l' h h'
  cases h' with
  | cons h1 h2 =>
   simp only [renL] at h;split at h
   ·rename_i a l ha hl;cases h;exact .cons (hf _ _ _ ha h1) (ih hl h2)
   ·cases h
theorem zcZ (hτ : ∀ b c i, τ b = some c → Γ b = some i → Γ' c = some i) : ∀ (d : Nat) {v v2 v' : Value}, renV τ d v = some v2 → VR Γ v v' → VR Γ' v2 v' := by
 intro d
 induction d with
 | zero => intro v v2 v' h; simp [renV] at h
 | succ d ih =>
  intro v v2 v' h hv;have ihl := @zmF Γ Γ' (renV τ d) (fun v v2 v' => ih)
  cases hv with
  | bool b => simp only [renV] at h; cases h; exact .bool b
  | int k n => simp only [renV] at h; cases h; exact .int k n
  | string s => simp only [renV] at h; cases h; exact .string s
  | ptrN => simp only [renV] at h; cases h; exact .ptrN
  | ptr hb =>
   simp only [renV] at h;split at h
   ·rename_i c hc; cases h; exact .ptr (hτ _ _ _ hc hb)
   ·cases h
  | sliceN n c => simp only [renV] at h; cases h; exact .sliceN n c
  | sliceZ a => simp only [renV] at h; cases h
  | sliceE a c => simp only [renV] at h; cases h
  | slice hb hc =>
   simp only [renV] at h;split at h
   ·rename_i c hc'; cases h; exact .slice (hτ _ _ _ hc' hb) hc
   ·cases h
  | mapN => simp only [renV] at h; cases h; exact .mapN
  | map hb =>
   simp only [renV] at h;split at h
   ·rename_i c hc'; cases h; exact .map (hτ _ _ _ hc' hb)
   ·cases h
  | func h1 h2 =>
   simp only [renV] at h;split at h
   ·rename_i x y hx hy; cases h; exact .func (ihl hx h1) (ihl hy h2)
   ·cases h
  | yield hb h1 h2 => simp [renV] at h
  | nilFunc => simp only [renV] at h; cases h; exact .nilFunc
  | nilIface => simp only [renV] at h; cases h; exact .nilIface
  | iface h1 =>
   simp only [renV] at h;split at h
   ·rename_i y hy; cases h; exact .iface (ih hy h1)
   ·cases h
  | agg h1 =>
   simp only [renV] at h;split at h
   ·rename_i y hy; cases h; exact .agg (ihl hy h1)
   ·cases h
  | tuple h1 =>
   simp only [renV] at h;split at h
   ·rename_i y hy; cases h; exact .tuple (ihl hy h1)
   ·cases h
theorem zkf {f : Value → Option Value} (hf : ∀ v v2 v', f v = some v2 → VR Γ v v' → VR Γ' v2 v') : ∀ {l l2 l' : List MapEntry}, renEs f l = some l2 → All2 (EntR Γ) l l' → All2 (EntR Γ') l2 l' := by
 intro l
 induction l with
 | nil => intro l2 l' h h'; cases h'; simp only [renEs] at h; cases h; exact .nil
 | cons v r ih =>
  intro l2 l' h h'
  cases h' with
  | cons h1 h2 =>
   simp only [renEs] at h;split at h
   ·rename_i k v l hk hv hl;cases h;exact .cons ⟨hf _ _ _ hk h1.key, hf _ _ _ hv h1.val, h1.born⟩ (ih hl h2)
   ·cases h
theorem zcK {x y : ABlk} (h : renB τ x = some y) : y.isOwn = x.isOwn := by
 unfold renB at h;split at h
 ·split at h
  ·cases h; rfl
  ·cases h
 ·split at h
  ·cases h; rfl
  ·cases h
 ·cases h
theorem zgD {f : Value → Option Value} : ∀ {l l2 : List Value}, renL f l = some l2 → l2.length = l.length := by
 intro l
 induction l with
 | nil => intro l2 h; simp only [renL] at h; cases h; rfl
 | cons v r ih =>
  intro l2 h;simp only [renL] at h;split at h
  ·rename_i a l ha hl; cases h; simp [ih hl]
  ·cases h
theorem zk4 {f : Value → Option Value} : ∀ {l l2 : List Value}, renL f l = some l2 → ∀ {k : Nat} {v2 : Value}, l2[k]? = some v2 → ∃ v, l[k]? = some v ∧ f v = some v2 := by
 intro l
 induction l with
 | nil => intro l2 h k v2 hk; simp only [renL] at h; cases h; simp at hk
 | cons v r ih =>
  intro l2 h k v2 hk;simp only [renL] at h;split at h
  ·rename_i a l ha hl; cases h
   cases k with
   | zero => simp at hk; subst hk; exact ⟨v, rfl, ha⟩
   | succ k => simp at hk; simpa using ih hl hk
  ·cases h
theorem zc2 (hτ : ∀ b c i, τ b = some c → Γ b = some i → Γ' c = some i) {i : BI} {x y : ABlk} {o : Obj} (h : renB τ x = some y) (hx : ObjR Γ i x o) : ObjR Γ' i y o := by
 unfold renB at h;split at h
 ·split at h
  ·rename_i cs z s ro l hl;cases h;obtain ⟨rc, e, fz, a1, a2, a3, a4, a5, a6, a7, a8, a9⟩ := hx;have hlen := zgD hl;refine ⟨rc, e, fz, a1, by rw [hlen]; exact a2, a3, a4, by rw [hlen]; exact a5, a6, a7, a8, fun k v2 hk => ?_⟩;obtain ⟨v, hv, hf⟩ := zk4 hl hk;obtain ⟨v', h1, h2⟩ := a9 k v hv;exact ⟨v', h1, zcZ hτ 8 hf h2⟩
  ·cases h
 ·split at h
  ·rename_i es cl ro l hl;cases h;obtain ⟨es', h1, h2⟩ := hx;exact ⟨es', h1, zkf (fun _ _ _ => zcZ hτ 8) hl h2⟩
  ·cases h
 ·cases h
end
theorem znM : ∀ (l : List Nat) (k : Nat) (t : Tr Nat) (m n : Nat), (tauOf l k t).get m = some n → t.get m = some n ∨ ∃ j b, l[j]? = some b ∧ b / 2 = m ∧ n = k + j := by
 intro l
 induction l with
 | nil => intro k t m n h; exact .inl h
 | cons b r ih =>
  intro k t m n h;rcases ih _ _ _ _ h with h | ⟨j, b', h1, h2, h3⟩
  ·rw [Tr.zaT] at h;split at h
   ·rename_i e; cases h;exact .inr ⟨0, b, rfl, e.symm, rfl⟩
   ·exact .inl h
  ·exact .inr ⟨j + 1, b', by simpa using h1, h2, by omega⟩
theorem zjN {ren : Nat → Option Nat} {h : AHeap} : ∀ {l : List Nat} {c : Nat} {ys : List ABlk}, collect ren h l c = some ys → ys.length = l.length ∧ ∀ (k : Nat) (b : Nat), l[k]? = some b →
  own b = true ∧ ren b = some (c + 2 * k) ∧ ∃ x y, h.get b = some x ∧ ys[k]? = some y ∧ renB ren x = some y := by
 intro l
 induction l with
 | nil => intro c ys h; simp only [collect] at h; cases h; exact ⟨rfl, fun k b hk => by simp at hk⟩
 | cons b r ih =>
  intro c ys h;simp only [collect] at h;split at h
  ·rename_i x c' hx hc;split at h
   ·rename_i y l hy hl;split at h
    ·rename_i hb;cases h;rw [Bool.and_eq_true] at hb;obtain ⟨i1, i2⟩ := ih hl;refine ⟨by simp [i1], fun k b' hk => ?_⟩
     cases k with
     | zero =>
      simp at hk; subst hk
      exact ⟨hb.1, by rw [hc, Nat.eq_of_beq_eq_true hb.2]; rfl, x, y, hx, rfl, hy⟩
     | succ k =>
      simp at hk;obtain ⟨j1, j2, j3⟩ := i2 k b' hk;exact ⟨j1, by rw [j2]; congr 1; omega, by simpa using j3⟩
    ·cases h
   ·cases h
  ·cases h
theorem zdb : ∀ (ys : List ABlk) (h : AHeap), (addL h ys).fresh = h.fresh + 2 * ys.length ∧ Kept h (addL h ys) ∧ (addL h ys).low = h.low ∧
  ∀ b y, (addL h ys).get b = some y → (h.get b = some y ∧ ∀ k, k < ys.length → b ≠ h.fresh + 2 * k) ∨ ∃ k, ys[k]? = some y ∧ b = h.fresh + 2 * k := by
 intro ys
 induction ys with
 | nil => intro h; exact ⟨by simp [addL], .refl _, rfl, fun b y hb => .inl ⟨hb, fun k hk => by simp at hk⟩⟩
 | cons y r ih =>
  intro h;obtain ⟨h1, h2, h3, h4⟩ := ih (h.add y);refine ⟨?_, ?_, h3, ?_⟩
  ·simp only [addL]; rw [h1, zbd]; simp; omega
  ·exact (Kept.add h y).trans (by rw [zbd]; omega) h2
  ·intro b y' hb;simp only [addL] at hb;rcases h4 b y' hb with ⟨h5, h6⟩ | ⟨k, h5, h6⟩
   ·rw [AHeap.get_add] at h5;split at h5
    ·rename_i e; cases h5;exact .inr ⟨0, rfl, by omega⟩
    ·rename_i e;refine .inl ⟨h5, fun k hk => ?_⟩
     cases k with
     | zero => simpa using e
     | succ k =>
      have := h6 k (by simpa using hk);rw [zbd] at this;omega
   ·refine .inr ⟨k + 1, by simpa using h5, ?_⟩;rw [zbd] at h6; omega
theorem ze6 {Γ Γ1 : Ga} {H H1 : AHeap} {w w' : World} {v1 v2 v' : Value} {ys : List ABlk} (hc : compact H (v1, H1) = some (v2, ys)) (hr : Rel Γ H w) (h1 : Rel Γ1 H1 w')
  (ha : Adv Γ { H with low := H.fresh } w Γ1 H1 w') (hv : VR Γ1 v1 v') : ∃ Γ2, Rel Γ2 (addL H ys) w' ∧ Adv Γ H w Γ2 (addL H ys) w' ∧ VR Γ2 v2 v' := by
 unfold compact at hc;split at hc
 ·rename_i hlow;have hlow : H.fresh ≤ H1.low := Nat.le_of_ble_eq_true hlow;simp only at hc;generalize hl : (reachGo 1000000 H1 H.fresh (idsV 8 v1 []) .nil []).reverse = l at hc
  generalize hren : renId H.fresh (tauOf l 0 .nil) = ren at hc
  split at hc
  ·rename_i v ys' hv1 hcol;cases hc;obtain ⟨hlen, hspec⟩ := zjN hcol;obtain ⟨sp1, sp2, sp3, sp4⟩ := zdb ys H
   let G : Ga := fun b => if b % 2 = 0 ∧ H.fresh ≤ b then (l[(b - H.fresh) / 2]?).bind Γ1 else Γ b
   have hext : ∀ b, b % 2 = 1 ∨ b < H.fresh → Γ1 b = Γ b := ha.ext;have hev := zao.1 (zby H)
   have Gold : ∀ b, b % 2 = 1 ∨ b < H.fresh → G b = Γ b := by
    intro b hb;show (if _ then _ else _) = _;rw [if_neg (by rintro ⟨e, l⟩; omega)]
   have Gnew : ∀ k : Nat, G (H.fresh + 2 * k) = (l[k]?).bind Γ1 := by
    intro k;show (if _ then _ else _) = _;rw [if_pos (by omega)];have : (H.fresh + 2 * k - H.fresh) / 2 = k := by omega
    rw [this]
   have hle : Ga.le Γ G := fun b i hb => by rw [Gold b (hr.dom b i hb)]; exact hb
   have hτ : ∀ b c i, ren b = some c → Γ1 b = some i → G c = some i := by
    intro b c i hb hi;rw [← hren] at hb;unfold renId at hb;split at hb
    ·rename_i hb2;obtain rfl := Option.some.inj hb
     have : b % 2 = 1 ∨ b < H.fresh := by
      simp only [Bool.or_eq_true, Bool.not_eq_true', Nat.blt_eq] at hb2;rcases hb2 with h | h
      ·left
       cases h2 : own b with
       | true => rw [h] at h2; cases h2
       | false => simp [own] at h2; omega
      ·exact .inr h
     rw [Gold b this, ← hext b this]; exact hi
    ·rename_i hb2;split at hb
     ·rename_i k hk;cases hb;rcases znM _ _ _ _ _ hk with h | ⟨j, b', e1, e2, e3⟩
      ·rw [Tr.zbS] at h; cases h
      ·have hj : k = j := by omega
       subst hj;have ho := (hspec k b' e1).1
       have hob : own b = true := by
        cases h2 : own b with
        | true => rfl
        | false => simp [h2] at hb2
       rw [zao] at ho hob;have : b' = b := by omega
       subst this;rw [Gnew, e1]; exact hi
     ·cases hb
   -- where each block of the new heap comes from
   have src : ∀ b y, (addL H ys).get b = some y → ((b % 2 = 1 ∨ b < H.fresh) ∧ H.get b = some y ∧ H1.get b = some y) ∨
     ∃ k b1 x, b = H.fresh + 2 * k ∧ l[k]? = some b1 ∧ own b1 = true ∧ H.fresh ≤ b1 ∧ ren b1 = some b ∧ H1.get b1 = some x ∧ renB ren x = some y ∧ k < ys.length := by
    intro b y hb;rcases sp4 b y hb with ⟨h5, _⟩ | ⟨k, h5, h6⟩
    ·left;obtain ⟨i, _, hi, _⟩ := hr.blk b y h5;have hd := hr.dom b i hi;refine ⟨hd, h5, ?_⟩;rw [ha.kept.get b (hd.imp (fun h => h) fun h => ⟨h, Nat.lt_of_lt_of_le h hlow⟩)];exact h5
    ·right;have hk : k < l.length := by rw [← hlen]; exact (List.getElem?_eq_some_iff.1 h5).1
     obtain ⟨q1, q2, x, y2, q3, q4, q5⟩ := hspec k l[k] (by simp [hk]);rw [h5] at q4; cases q4;refine ⟨k, l[k], x, h6, by simp [hk], q1, ?_, by rw [q2, h6], q3, q5, by omega⟩;rcases Nat.lt_or_ge l[k] H.fresh with h | h
     ·rw [← hren] at q2;unfold renId at q2;rw [if_pos (by simp [Nat.blt_eq, h])] at q2;have := Option.some.inj q2; omega
     ·exact h
   have place : ∀ b y, (addL H ys).get b = some y → ∀ i, G b = some i → ∃ b1 x, H1.get b1 = some x ∧ Γ1 b1 = some i ∧ x.isOwn = y.isOwn ∧ (((b % 2 = 1 ∨ b < H.fresh) ∧ b1 = b) ∨ (own b1 = true ∧ H.fresh ≤ b1 ∧ ren b1 = some b)) := by
    intro b y hb i hi;rcases src b y hb with ⟨hd, g1, g2⟩ | ⟨k, b1, x, e, g1, g2, g3, g4, g5, g6, _⟩
    ·exact ⟨b, y, g2, by rw [hext b hd, ← Gold b hd]; exact hi, rfl, .inl ⟨hd, rfl⟩⟩
    ·refine ⟨b1, x, g5, ?_, (zcK g6).symm, .inr ⟨g2, g3, g4⟩⟩;rw [e, Gnew, g1] at hi; exact hi
   refine ⟨G, ⟨?_, ?_, ?_, ?_⟩, ⟨fun b hb => Gold b hb, by rw [sp1]; omega, ha.size, ?_, ?_, ha.os, ha.tape, ha.output, sp2⟩, zcZ hτ 8 hv1 hv⟩
   ·intro b i hb;rw [sp1];by_cases hc : b % 2 = 0 ∧ H.fresh ≤ b
    ·right;have h : (if b % 2 = 0 ∧ H.fresh ≤ b then (l[(b - H.fresh) / 2]?).bind Γ1 else Γ b) = some i := hb;rw [if_pos hc] at h
     cases hg : l[(b - H.fresh) / 2]? with
     | none => rw [hg] at h; cases h
     | some x =>
      have := (List.getElem?_eq_some_iff.1 hg).1;omega
    ·have : b % 2 = 1 ∨ b < H.fresh := by omega
     exact this.imp id (by omega)
   ·intro b y hb;rcases src b y hb with ⟨hd, g1, g2⟩ | ⟨k, b1, x, e, g1, g2, g3, g4, g5, g6, _⟩
    ·obtain ⟨i, o, k1, k2, k3⟩ := h1.blk b y g2;obtain ⟨i2, o2, m1, m2, m3⟩ := hr.blk b y g1;rw [hext b hd, m1] at k1; cases k1;have hle1 : Ga.le Γ Γ1 := fun b i hb => by rw [hext b (hr.dom b i hb)]; exact hb
     exact ⟨i, o, hle _ _ m1, k2, (m3.restrict hle1 k3).mono hle⟩
    ·obtain ⟨i, o, k1, k2, k3⟩ := h1.blk b1 x g5;exact ⟨i, o, hτ _ _ _ g4 k1, k2, zc2 hτ g6 k3⟩
   ·intro b y hb hob;rcases src b y hb with ⟨hd, g1, g2⟩ | ⟨k, b1, x, e, g1, g2, g3, g4, g5, g6, _⟩
    ·exact hr.ownd b y g1 hob
    ·rw [zcK g6]; exact h1.ownd b1 x g5 g2
   ·intro b b' y y' i i' hb hb' hi hi' hown hne;obtain ⟨c, x, p1, p2, p3, p4⟩ := place b y hb i hi;obtain ⟨c', x', q1, q2, q3, q4⟩ := place b' y' hb' i' hi';refine h1.sep c c' x x' i i' p1 q1 p2 q2 (by rw [p3]; exact hown) ?_;intro e; subst e;rcases p4 with ⟨u1, u2⟩ | ⟨u1, u2, u3⟩ <;> rcases q4 with ⟨t1, t2⟩ | ⟨t1, t2, t3⟩
    ·exact hne (u2.symm.trans t2)
    ·subst u2; rw [zao] at t1; omega
    ·subst t2; rw [zao] at u1; omega
    ·rw [u3] at t3; cases t3; exact hne rfl
   ·intro r hlt hm;exact ha.keep r hlt hm
   ·rintro r ⟨b, y, i, hb, hown, hi, rfl⟩
    obtain ⟨c, x, p1, p2, p3, _⟩ := place b y hb i hi;exact ha.mine i.real ⟨c, x, i, p1, by rw [p3]; exact hown, p2, rfl⟩
  ·cases hc
 ·cases hc
theorem zdQ {α : Type} {f : α → α → Bool} (hf : ∀ a b, f a b = true → a = b) : ∀ {l m : List α}, eqLs f l m = true → l = m := by
 intro l
 induction l with
 | nil => intro m h; cases m with
  | nil => rfl
  | cons b q => simp [eqLs] at h
 | cons a r ih => intro m h; cases m with
  | nil => simp [eqLs] at h
  | cons b q =>
   simp only [eqLs, Bool.and_eq_true] at h;rw [hf a b h.1, ih h.2]
theorem zo9 {a b : Addr} (h : eqAd a b = true) : a = b := by
 unfold eqAd at h;split at h
 ·simp at h; obtain ⟨h1, h2⟩ := h; subst h1; subst h2; rfl
 ·cases h
theorem zo8 {α : Type} {f : α → α → Bool} (hf : ∀ a b, f a b = true → a = b) {a b : Option α} (h : eqO f a b = true) : a = b := by
 unfold eqO at h;split at h
 ·rfl
 ·rw [hf _ _ h]
 ·cases h
theorem zda {α : Type} {a b : Array α} (h : a.toList = b.toList) : a = b := Array.toList_inj.1 h
theorem zdY : ∀ (d : Nat) {x y : Value}, beqV d x y = true → x = y := by
 intro d
 induction d with
 | zero => intro x y h; simp [beqV] at h
 | succ d ih =>
  intro x y h;have ihl : ∀ {l m : List Value}, eqLs (beqV d) l m = true → l = m := fun h => zdQ (fun a b => ih) h
  unfold beqV at h;split at h
  ·simp at h; rw [h]
  ·simp at h; rw [h.1, h.2]
  ·rename_i a b;rw [ziR] at h;have : a.data.toList = b.data.toList := by simpa using h
   have h2 : a.data = b.data := zda this;cases a; cases b; simp at h2; rw [h2]
  ·rfl
  ·rfl
  ·rw [zo8 (fun a b => zo9) h]
  ·simp only [Bool.and_eq_true, beq_iff_eq] at h;rw [zo8 (fun a b => zo9) h.1.1, h.1.2, h.2]
  ·rw [zo8 (fun a b h => by simpa using h) h]
  ·simp only [Bool.and_eq_true, beq_iff_eq] at h;rw [h.1.1, zda (ihl h.1.2), zda (ihl h.2)]
  ·simp only [Bool.and_eq_true, beq_iff_eq] at h;rw [h.1, ih h.2]
  ·rw [zda (ihl h)]
  ·rw [zda (ihl h)]
  ·cases h
theorem zkL {x y : ABlk} (h : beqB x y = true) : x = y := by
 unfold beqB at h;split at h
 ·simp only [Bool.and_eq_true, beq_iff_eq] at h;rw [zdQ (fun a b => zdY 8) h.1.1.1, h.1.1.2, h.1.2, h.2]
 ·simp only [Bool.and_eq_true, beq_iff_eq] at h
  rw [zdQ (fun a b hab => by
   simp only [Bool.and_eq_true, beq_iff_eq] at hab;cases a; cases b;simp only at hab;rw [zdY 8 hab.1.1, zdY 8 hab.1.2, hab.2]) h.1.1, h.1.2, h.2]
 ·cases h
theorem Rel.lower {Γ : Ga} {H : AHeap} {w : World} (hr : Rel Γ H w) (n : Nat) : Rel Γ { H with low := n } w := ⟨hr.dom, hr.blk, hr.ownd, hr.sep⟩
theorem zqY {P : Program} {R : Rec} (hR : ∀ {f args H outs}, R.call f args H = some outs → CallT P f args H fun v H' => (v, H') ∈ outs) {f : FuncId} {args : List Value} {H : AHeap} {outs : List (Value × AHeap)}
  (h : callGC R f args H = some outs) : CallT P f args H fun v H' => (v, H') ∈ outs := by
 unfold callGC at h
 -- from the call at the marked heap
 have go : ∀ {o1 : List (Value × AHeap)}, R.call f args { H with low := H.fresh } = some o1 → (∀ v1 H1, (v1, H1) ∈ o1 → ∀ (Γ Γ1 : Ga) (w w' : World) (v' : Value), Rel Γ H w → Rel Γ1 H1 w' → Adv Γ { H with low := H.fresh } w Γ1 H1 w' → VR Γ1 v1 v' →
   ∃ v H' Γ', (v, H') ∈ outs ∧ Rel Γ' H' w' ∧ Adv Γ H w Γ' H' w' ∧ VR Γ' v v') → CallT P f args H fun v H' => (v, H') ∈ outs := by
  intro o1 hc hk;have ht := hR hc;refine ⟨ht.enters, fun Γ w args' hr hg ha => (ht.calls Γ w args' (hr.lower _) hg ha).mono ?_⟩
  rintro e w' ⟨v', v1, H1, Γ1, rfl, hmem, h1, h2, h3⟩
  obtain ⟨v, H', Γ', k1, k2, k3, k4⟩ := hk v1 H1 hmem Γ Γ1 w w' v' hr h1 h2 h3;exact ⟨v', v, H', Γ', rfl, k1, k2, k3, k4⟩
 have goKeep : ∀ {o1 : List (Value × AHeap)}, R.call f args { H with low := H.fresh } = some o1 → outs = o1.map (fun y => (y.1, { y.2 with low := min H.low y.2.low })) → CallT P f args H fun v H' => (v, H') ∈ outs := by
  intro o1 hc ho;refine go hc fun v1 H1 hmem Γ Γ1 w w' v' hr h1 h2 h3 => ?_
  refine ⟨v1, { H1 with low := min H.low H1.low }, Γ1, ?_, h1.lower _, ?_, h3⟩
  ·rw [ho, List.mem_map]; exact ⟨_, hmem, rfl⟩
  ·refine ⟨h2.ext, h2.fresh, h2.size, h2.keep, h2.mine, h2.os, h2.tape, h2.output, ⟨Nat.min_le_left _ _, fun b hb => ?_⟩⟩;exact h2.kept.get b (hb.imp (fun h => h) fun h => ⟨h.1, Nat.lt_of_lt_of_le h.2 (Nat.min_le_right _ _)⟩)
 split at h
 ·cases h
 ·rename_i hc;cases h;exact go hc fun v1 H1 hmem => by cases hmem
 ·rename_i x r hc;simp only at h;split at h
  ·cases h; exact goKeep hc rfl
  ·rename_i v ys hx;split at h
   ·rename_i hall;cases h;rw [List.all_eq_true] at hall;refine go hc fun v1 H1 hmem Γ Γ1 w w' v' hr h1 h2 h3 => ?_
    have hcomp : compact H (v1, H1) = some (v, ys) := by
     rcases List.mem_cons.1 hmem with e | hm
     ·rw [e]; exact hx
     ·have := hall _ hm;split at this
      ·rename_i v2 ys2 hy;rw [Bool.and_eq_true] at this;rw [hy, zdY 8 this.1, zdQ (fun a b => zkL) this.2]
      ·cases this
    obtain ⟨Γ2, k1, k2, k3⟩ := ze6 hcomp hr h1 h2 h3;exact ⟨v, _, Γ2, List.mem_singleton.2 rfl, k1, k2, k3⟩
   ·cases h; exact goKeep hc rfl
end Go.Den
namespace Go.Den
section
variable {P : Program} {C : Ctx} {R : Rec} {rd : Option Nat} {nt : Nat} {ops : Array Oper}
theorem OpT.mono {i : Nat} {s : St} {Q Q' : St → Prop} (h : OpT P rd nt ops i s Q) (hq : ∀ s', Q s' → Q' s') : OpT P rd nt ops i s Q' :=
 fun Γ F a w hs hF K Qx hK => h Γ F a w hs hF K Qx fun s' Γ' a' w' h1 h2 h3 h4 => hK s' Γ' a' w' (hq _ h1) h2 h3 h4
theorem zlj (hC : CtxOk P C) (hR : RecOk P R) {i : Nat} {o : Oper} (ho : ops[i]? = some o) {s : St} {outs : List St} (h : stepOp P C R nt ops o s = some outs) : OpT P rd nt ops i s (fun s' => s' ∈ outs) := by
 unfold stepOp at h;split at h
 ·cases h
 ·rename_i hw;simp only at h
  have fin : ∀ {m : Out (Value × AHeap)}, Out.bind m (fun x => match putDst nt o x.1 s.env with | some e => some [⟨e, s.defs, x.2⟩] | none => none) = some outs →
    ∃ l, m = some l ∧ ∀ v H', (v, H') ∈ l → ∃ e, putDst nt o v s.env = some e ∧ (⟨e, s.defs, H'⟩ : St) ∈ outs := by
   intro m hm;obtain ⟨l, h1, h2⟩ := Out.bind_spec hm;refine ⟨l, h1, fun v H' hmem => ?_⟩;obtain ⟨o', h3, h4⟩ := h2 _ hmem;simp only at h3;split at h3
   ·rename_i e he;cases h3;exact ⟨e, he, h4 _ (List.mem_singleton.2 rfl)⟩
   ·cases h3
  split at h
  ·rename_i c hc;split at h
   ·obtain ⟨l, h1, h2⟩ := fin h;exact zbE hC ho hw h1 h2
   ·split at h
    ·rename_i f args ht;obtain ⟨l, h1, h2⟩ := fin h;exact zeP ho hw hc ht (zqY hR.call h1) h2
    ·rename_i l args ht;obtain ⟨l, h1, h2⟩ := fin h;exact zox hR ho hw hc ht h1 h2
    ·cases h
  ·obtain ⟨l, h1, h2⟩ := fin h;exact zbE hC ho hw h1 h2
 ·rename_i hw;split at h
  ·rename_i e he;cases h;exact zeO ho hw he (List.mem_singleton.2 rfl)
  ·cases h
theorem zj4 {o : Oper} {s : St} {outs : List St} (h : stepOp P C R nt ops o s = some outs) : ∀ s' ∈ outs, s'.defs = s.defs := by
 unfold stepOp at h
 have fin : ∀ {m : Out (Value × AHeap)} {outs : List St}, Out.bind m (fun x => match putDst nt o x.1 s.env with | some e => some [⟨e, s.defs, x.2⟩] | none => none) = some outs → ∀ s' ∈ outs, s'.defs = s.defs := by
  intro m outs hm;unfold Out.bind at hm;split at hm
  ·cases hm
  ·rename_i l
   induction l generalizing outs with
   | nil => simp only [Out.bind.go] at hm; cases hm; intro s' h; cases h
   | cons a r ih =>
    have one : ∀ {x : List St}, (match putDst nt o a.1 s.env with | some e => some [(⟨e, s.defs, a.2⟩ : St)] | none => none) = some x → ∀ s' ∈ x, s'.defs = s.defs := by
     intro x hx;split at hx
     ·cases hx; intro s' h; rw [List.mem_singleton] at h; rw [h]
     ·cases hx
    cases r with
    | nil => simp only [Out.bind.go] at hm; exact one hm
    | cons b r =>
     simp only [Out.bind.go] at hm;split at hm
     ·cases hm
     ·rename_i x hx;split at hm
      ·cases hm
      ·rename_i y hy;cases hm;intro s' h;rcases List.mem_append.1 h with h | h
       ·exact one hx s' h
       ·exact ih hy s' h
 split at h
 ·cases h
 ·simp only at h;split at h
  ·split at h
   ·exact fin h
   ·split at h
    ·exact fin h
    ·exact fin h
    ·cases h
  ·exact fin h
 ·split at h
  ·cases h; intro s' h; rw [List.mem_singleton] at h; rw [h]
  ·cases h
inductive Bef (ops : Array Oper) : Nat → Nat → Prop
 | base {i : Nat} {o : Oper} {e : Edge} : ops[i]? = some o → e ∈ o.after → Region.binds .any e = true → Bef ops e.on i
 | step {i j : Nat} {o : Oper} {e : Edge} : ops[i]? = some o → e ∈ o.after → Region.binds .any e = true → Bef ops j e.on → Bef ops j i
theorem Bef.trans {j m i : Nat} (h : Bef ops j m) (k : Bef ops m i) : Bef ops j i := by
 induction k with
 | base h1 h2 h3 => exact .step h1 h2 h3 h
 | step h1 h2 h3 _ ih => exact .step h1 h2 h3 (ih h)
theorem Bef.listed {S : Nat → Bool} (hdown : ∀ j, S j = true → j < ops.size ∧ Bound ops S j) {j i : Nat} (h : Bef ops j i) : Bound ops S i → S j = true := by
 induction h with
 | base h1 h2 h3 => intro hb; exact hb _ h1 _ h2 h3
 | step h1 h2 h3 _ ih => intro hb; exact ih (hdown _ (hb _ h1 _ h2 h3)).2
theorem zng {acc : Tr Nat} {o : Oper} {i : Nat} (ho : ops[i]? = some o) (hacc : ∀ m b, acc.get m = some b → ∀ j, Nat.testBit b j = true → Bef ops j m) : ∀ j, Nat.testBit (befOf acc o) j = true → Bef ops j i := by
 unfold befOf
 have key : ∀ (l : List Edge) (s : Nat), (∀ e ∈ l, e ∈ o.after) → (∀ j, Nat.testBit s j = true → Bef ops j i) →
   ∀ j, Nat.testBit (l.foldl (fun s e => if Region.binds .any e then s ||| 2 ^ e.on ||| (acc.get e.on).getD 0 else s) s) j = true → Bef ops j i := by
  intro l
  induction l with
  | nil => intro s _ hs j hj; exact hs j hj
  | cons e r ih =>
   intro s hl hs;refine ih _ (fun e he => hl e (List.mem_cons_of_mem _ he)) ?_;intro j hj;simp only at hj;split at hj
   ·rename_i hb;rw [Nat.testBit_or, Nat.testBit_or, Bool.or_eq_true, Bool.or_eq_true] at hj;have he := hl e (List.mem_cons_self ..);rcases hj with (h | h) | h
    ·exact hs j h
    ·rw [Nat.testBit_two_pow] at h;have : e.on = j := by simpa using h
     subst this;exact .base ho he hb
    ·cases hg : acc.get e.on with
     | none => rw [hg] at h; simp at h
     | some b => rw [hg] at h; exact .step ho he hb (hacc _ _ hg j h)
   ·exact hs j hj
 exact key o.after.toList 0 (fun e he => by simpa using he) (fun j hj => by simp at hj)
theorem zgM : ∀ {l : List Oper} {k : Nat} {acc : Tr Nat} {ds : List DOp}, planGo C l k acc = some ds → (∀ i, l[i]? = ops[k + i]?) → (∀ m b, acc.get m = some b → ∀ j, Nat.testBit b j = true → Bef ops j m) →
  ds.length = l.length ∧ ∀ i d, ds[i]? = some d → d.i = k + i ∧ ops[k + i]? = some d.o ∧ (∀ e ∈ d.o.after, Region.binds .any e = true → e.on < k + i) ∧ ∀ j, Nat.testBit d.bef j = true → Bef ops j (k + i) := by
 intro l
 induction l with
 | nil => intro k acc ds h _ _; simp only [planGo] at h; cases h; exact ⟨rfl, fun i d hd => by simp at hd⟩
 | cons o r ih =>
  intro k acc ds h hl hacc;simp only [planGo] at h;split at h
  ·rename_i hall;split at h
   ·rename_i l' hl';cases h;have ho : ops[k]? = some o := by have := hl 0; simpa using this.symm
    have hbef := zng ho hacc
    obtain ⟨i1, i2⟩ := ih hl' (fun i => by have := hl (i + 1); simp at this; rw [this]; congr 1; omega) (by
     intro m b hm;rw [Tr.zaT] at hm;split at hm
     ·rename_i e; cases hm; rw [e]; exact hbef
     ·exact hacc m b hm)
    refine ⟨by simp [i1], fun i d hd => ?_⟩
    cases i with
    | zero =>
     simp at hd; subst hd;refine ⟨rfl, ho, fun e he hb => ?_, hbef⟩;rw [List.all_eq_true] at hall;have := hall e (by simpa using he)
     simpa [hb] using this
    | succ i =>
     simp at hd;have := i2 i d hd;have e : k + 1 + i = k + (i + 1) := by omega
     rw [e] at this;exact this
   ·cases h
  ·cases h
theorem zbZ : ∀ (c k : Nat) (s t : Tr ABlk) (m : Nat), (copyR c k s t).get m = if k ≤ m ∧ m < k + c then s.get m else t.get m := by
 intro c
 induction c with
 | zero => intro k s t m; simp only [copyR]; rw [if_neg (by omega)]
 | succ c ih =>
  intro k s t m;simp only [copyR];rw [ih];by_cases e : m = k
  ·subst e;rw [if_neg (by omega), if_pos (by omega)];split
   ·rename_i x hx; rw [Tr.zaT, if_pos rfl, hx]
   ·rename_i hx; rw [Tr.zcR, if_pos rfl, hx]
  ·by_cases h : k + 1 ≤ m ∧ m < k + 1 + c
   ·rw [if_pos h, if_pos (by omega)]
   ·rw [if_neg h, if_neg (by omega)];split
    ·rw [Tr.zaT, if_neg e]
    ·rw [Tr.zcR, if_neg e]
theorem zqT {us : List DOp} : ∀ {env : Env} {x : Nat} {v : Value}, (us.foldl (fun e u => match u.o.dst with | some t => e.del t | none => e) env).get x = some v →
  env.get x = some v ∧ ∀ u ∈ us, u.o.dst ≠ some x := by
 induction us with
 | nil => intro env x v h; exact ⟨h, fun u hu => by cases hu⟩
 | cons u r ih =>
  intro env x v h;obtain ⟨h1, h2⟩ := ih (env := match u.o.dst with | some t => env.del t | none => env) h
  cases hd : u.o.dst with
  | none =>
   rw [hd] at h1;refine ⟨h1, fun u' hu => ?_⟩;rcases List.mem_cons.1 hu with rfl | hu
   ·rw [hd]; simp
   ·exact h2 u' hu
  | some t =>
   rw [hd] at h1;simp only [Tr.zcR] at h1;split at h1
   ·cases h1
   ·rename_i hne;refine ⟨h1, fun u' hu => ?_⟩;rcases List.mem_cons.1 hu with rfl | hu
    ·rw [hd]; intro e; exact hne (Option.some.inj e).symm
    ·exact h2 u' hu
end
end Go.Den
namespace Go.Den
section
variable {P : Program} {C : Ctx} {R : Rec} {rd : Option Nat} {nt : Nat} {ops : Array Oper}
theorem AHeap.get_even (h : AHeap) {x : Nat} (hx : x % 2 = 0) : h.get x = h.blks.get (x / 2) := by
 unfold AHeap.get; rw [hx]
theorem AHeap.get_odd (h : AHeap) {x : Nat} (hx : x % 2 = 1) : h.get x = h.base (x / 2) := by
 unfold AHeap.get; rw [hx]
structure StepOk (all : List DOp) (defs : List Nat) (ds : DS) (d : DOp) (ds' : DS) (t : DT) : Prop where
 preEnv : ∀ x v, t.pre.env.get x = some v → ds.env.get x = some v ∧ ∀ u ∈ all, d.apart u = true → u.o.dst ≠ some x
 preDefs : t.pre.defs = defs
 preFresh : t.pre.heap.fresh = ds.heap.fresh
 dsts : ∀ u ∈ all, d.apart u = true → ∀ x, u.o.dst = some x → d.o.dst ≠ some x
 postFresh : ds'.heap.fresh = t.post.heap.fresh
 mid : ds.heap.fresh ≤ t.post.heap.fresh
 env : ∀ x, ds'.env.get x = if d.o.dst = some x then t.post.env.get x else ds.env.get x
 heap : ∀ x, ds'.heap.get x = if t.t.has x then t.post.heap.get x else ds.heap.get x
 hbase : ds'.heap.base = ds.heap.base
 baseE : ds'.base = match t.t with | .all => ds'.heap | _ => ds.base
 hist : ds'.hist = match t.t with | .all => [] | _ => if d.free then ds.hist else ⟨d, t.pre.heap, t.t⟩ :: ds.hist
 low : ds'.heap.low ≤ ds.heap.low
 lowT : ∀ x, t.t.has x = true → x < ds.heap.fresh → ds'.heap.low ≤ t.post.heap.low
 quiet : ∀ b, b % 2 = 0 → t.t.has b = false → (b < t.pre.heap.fresh ∧ b < t.post.heap.low) ∨ t.post.heap.fresh ≤ b ∨ t.post.heap.get b = t.pre.heap.get b
 free : d.free = true → t.t = .non ∧ ∀ x, t.pre.heap.get x = none
 isAll : t.t = .all → (∀ u ∈ all, d.apart u = true → u.free = true) ∧ ∀ x, t.pre.heap.get x = ds.heap.get x
 isRng : ∀ k c src, t.t = .rng k c src → 2 * k = ds.heap.fresh ∧ 2 * (k + c) = t.post.heap.fresh ∧ src = t.post.heap.blks
 isCell : ∀ b y, t.t = .cell b y → b % 2 = 0 ∧ b < ds.heap.fresh ∧ t.post.heap.get b = some y ∧ t.pre.heap.get b ≠ none ∧ ∀ e ∈ ds.hist, d.apart e.d = true → e.pre.get b = none ∧ e.t.has b = false
 isRepl : ∀ b k c src, t.t = .repl b k c src → b % 2 = 0 ∧ b < ds.heap.fresh ∧ 2 * k = ds.heap.fresh ∧ 2 * (k + c) = t.post.heap.fresh ∧ src = t.post.heap.blks ∧ t.post.heap.get b = none ∧ t.pre.heap.get b ≠ none ∧ ∀ e ∈ ds.hist, d.apart e.d = true → e.pre.get b = none ∧ e.t.has b = false
 view : d.free = true ∨ ((∀ u ∈ all, d.apart u = true → u.free = true) ∧ ∀ x, t.pre.heap.get x = ds.heap.get x) ∨
  (∃ b y, b % 2 = 0 ∧ b < ds.heap.fresh ∧ ds.heap.get b = some y ∧ (∀ x z, t.pre.heap.get x = some z → x = b ∧ z = y) ∧ ∀ e ∈ ds.hist, d.apart e.d = true → e.t.has b = false) ∨
  (∀ x z, t.pre.heap.get x = some z → (x % 2 = 1 ∧ ds.heap.get x = some z) ∨ (x % 2 = 0 ∧ (viewA d.bef ds.base.blks ds.hist).get (x / 2) = some z))
theorem zqr {i : Nat} {s s1 : St} {b : Nat} {x y : ABlk} {next fr : Nat} (hh : s.heap = ⟨Tr.nil.set (b / 2) x, fun _ => none, next, fr⟩) (hfr : fr = 2 * next) (hb : b % 2 = 0) (hlt : b < 2 * next) (h : OpT P rd nt ops i s (fun s' => s' = s1))
  (hn : s1.heap.next = next) (hg : s1.heap.get b = some y) (hd : s1.defs = s.defs) : OpT P rd nt ops i s (fun s' => s' = ⟨s1.env, s.defs, ⟨Tr.nil.set (b / 2) y, fun _ => none, next, b⟩⟩) := by
 intro Γ F a w hs hF K Qx hK;refine h Γ F a w hs hF K Qx ?_
 rintro s' Γ' a' w' rfl h2 h3 h4
 have sub : ∀ c z, (⟨Tr.nil.set (b / 2) y, fun _ => none, next, b⟩ : AHeap).get c = some z → s'.heap.get c = some z := by
  intro c z hz;by_cases hc : c % 2 = 0
  ·rw [AHeap.get_even _ hc] at hz;simp only [Tr.zaT, Tr.zbS] at hz;split at hz
   ·cases hz;have : c = b := by omega
    rw [this]; exact hg
   ·cases hz
  ·rw [AHeap.get_odd _ (by omega)] at hz; cases hz
 have hfresh : (⟨Tr.nil.set (b / 2) y, fun _ => none, next, b⟩ : AHeap).fresh = s'.heap.fresh := by simp only [AHeap.fresh]; rw [hn]
 refine hK _ Γ' a' w' rfl ⟨⟨fun c j hj => ?_, fun c z hz => ?_, fun c z hz => ?_, fun c c' z z' j j' hz hz' => ?_⟩, h2.env, ?_⟩ ⟨?_, ?_, h3.size, h3.keep, ?_, h3.os, h3.tape, h3.output, ?_⟩ h4
 ·rw [hfresh]; exact h2.rel.dom c j hj
 ·exact h2.rel.blk c z (sub c z hz)
 ·exact h2.rel.ownd c z (sub c z hz)
 ·exact h2.rel.sep c c' z z' j j' (sub c z hz) (sub c' z' hz')
 ·have := h2.defs; rw [hd] at this; exact this
 ·exact h3.ext
 ·show s.heap.fresh ≤ _; rw [hfresh]; exact h3.fresh
 ·rintro r ⟨c, z, j, hz, h⟩
  exact h3.mine r ⟨c, z, j, sub c z hz, h⟩
 ·refine ⟨?_, fun c hc => ?_⟩
  ·show b ≤ s.heap.low; rw [hh]; show b ≤ fr; omega
  ·show (⟨Tr.nil.set (b / 2) y, fun _ => none, next, b⟩ : AHeap).get c = s.heap.get c;rw [hh];by_cases hc2 : c % 2 = 0
   ·rw [AHeap.get_even _ hc2, AHeap.get_even _ hc2]
    have hcb : c < b := by
     rcases hc with h | h
     ·omega
     ·exact h.2
    simp only [Tr.zaT, Tr.zbS];rw [if_neg (by omega), if_neg (by omega)]
   ·rw [AHeap.get_odd _ (by omega), AHeap.get_odd _ (by omega)]
theorem zfK {h h' : AHeap} : ∀ {n a : Nat}, sameFrom h h' n a = true → ∀ k, a ≤ k → k < a + n → h.blks.get k = h'.blks.get k
 | 0, _, _, k, h1, h2 => by omega
 | n + 1, a, hs, k, h1, h2 => by
  simp only [sameFrom, Bool.and_eq_true] at hs;rcases Nat.lt_or_ge a k with h3 | h3
  ·exact zfK hs.2 k (by omega) (by omega)
  ·obtain rfl : k = a := by omega
   have := hs.1;split at this
   ·rename_i e1 e2; rw [e1, e2]
   ·rename_i e1 e2; rw [e1, e2, zkL this]
   ·cases this
theorem zky (hC : CtxOk P C) (hR : RecOk P R) {all : List DOp} {defs : List Nat} {ds ds' : DS} {d : DOp} {t : DT} {i : Nat} (ho : ops[i]? = some d.o) (h : drawStep P C R nt ops all defs ds d = some (ds', t)) :
  StepOk all defs ds d ds' t ∧ OpT P rd nt ops i t.pre (fun s => s = t.post) := by
 unfold drawStep at h;simp only at h;generalize hus : all.filter d.apart = us at h
 have husm : ∀ u, u ∈ us ↔ u ∈ all ∧ d.apart u = true := by intro u; rw [← hus, List.mem_filter]
 generalize henv : us.foldl (fun e u => match u.o.dst with | some t => e.del t | none => e) ds.env = env at h
 generalize hser : us.all (·.free) = series at h
 generalize hhs : ds.hist.filter (fun e => d.apart e.d) = hs at h
 generalize hloc : drawLoc ds d series env hs = loc at h
 have hlocS : ∀ b y, loc = some (b, y) → d.free = false ∧ series = false ∧ own b = true ∧ b < ds.heap.fresh ∧ ds.heap.get b = some y ∧ ∀ e ∈ ds.hist, d.apart e.d = true → e.t.has b = false := by
  intro b y hl;rw [hl] at hloc;unfold drawLoc at hloc;split at hloc
  ·cases hloc
  ·rename_i hfs;simp only [Bool.or_eq_true, not_or, Bool.not_eq_true] at hfs;split at hloc
   ·split at hloc
    ·rename_i hb;split at hloc
     ·rename_i x hx;cases hloc;simp only [Bool.and_eq_true, Nat.blt_eq, List.all_eq_true, Bool.not_eq_true'] at hb;refine ⟨hfs.1, hfs.2, hb.1.1, hb.1.2, hx, fun e he ha => hb.2 e ?_⟩;rw [← hhs, List.mem_filter]; exact ⟨he, ha⟩
     ·cases hloc
    ·cases hloc
   ·cases hloc
 split at h
 ·rename_i hdst;generalize hheap : drawHeap ds d series loc = heap at h
  have hnext : heap.next = ds.heap.next ∧ heap.low = ds.heap.fresh := by
   rw [← hheap]; unfold drawHeap; split
   ·exact ⟨rfl, rfl⟩
   ·split
    ·exact ⟨rfl, rfl⟩
    ·split <;> exact ⟨rfl, rfl⟩
  have hfresh : heap.fresh = ds.heap.fresh := by simp only [AHeap.fresh]; rw [hnext.1]
  have hfree : d.free = true → ∀ x, heap.get x = none := by
   intro hf x;rw [← hheap]; unfold drawHeap; rw [if_pos hf];by_cases hx : x % 2 = 0
   ·rw [AHeap.get_even _ hx]; exact Tr.zbS _
   ·rw [AHeap.get_odd _ (by omega)]
  have hseries : d.free = false → series = true → ∀ x, heap.get x = ds.heap.get x := by
   intro hf hs x;rw [← hheap]; unfold drawHeap; rw [if_neg (by simp [hf]), if_pos hs];rfl
  have hview : d.free = true ∨ ((∀ u ∈ all, d.apart u = true → u.free = true) ∧ ∀ x, heap.get x = ds.heap.get x) ∨
    (∃ b y, b % 2 = 0 ∧ b < ds.heap.fresh ∧ ds.heap.get b = some y ∧ (∀ x z, heap.get x = some z → x = b ∧ z = y) ∧ ∀ e ∈ ds.hist, d.apart e.d = true → e.t.has b = false) ∨
    (∀ x z, heap.get x = some z → (x % 2 = 1 ∧ ds.heap.get x = some z) ∨ (x % 2 = 0 ∧ (viewA d.bef ds.base.blks ds.hist).get (x / 2) = some z)) := by
   cases hf : d.free with
   | true => exact .inl rfl
   | false =>
    right
    cases hs : series with
    | true =>
     left;refine ⟨fun u hu ha => ?_, hseries hf hs⟩;rw [hs, List.all_eq_true] at hser
     exact hser u ((husm u).2 ⟨hu, ha⟩)
    | false =>
     right
     cases hl : loc with
     | some by' =>
      obtain ⟨b, y⟩ := by'
      left;obtain ⟨_, _, l1, l2, l3, l4⟩ := hlocS b y hl;refine ⟨b, y, zao.1 l1, l2, l3, ?_, l4⟩;intro x z hz;rw [← hheap] at hz; unfold drawHeap at hz; rw [if_neg (by simp [hf]), if_neg (by simp [hs]), hl] at hz;simp only at hz;have := zao.1 l1;by_cases hx : x % 2 = 0
      ·rw [AHeap.get_even _ hx] at hz;simp only [Tr.zaT, Tr.zbS] at hz;split at hz
       ·cases hz; exact ⟨by omega, rfl⟩
       ·cases hz
      ·rw [AHeap.get_odd _ (by omega)] at hz; cases hz
     | none =>
      right;intro x z hz;rw [← hheap] at hz; unfold drawHeap at hz; rw [if_neg (by simp [hf]), if_neg (by simp [hs]), hl] at hz;simp only at hz;by_cases hx : x % 2 = 0
      ·rw [AHeap.get_even _ hx] at hz; exact .inr ⟨hx, hz⟩
      ·rw [AHeap.get_odd _ (by omega)] at hz;exact .inl ⟨by omega, by rw [AHeap.get_odd _ (by omega)]; exact hz⟩
  split at h
  ·rename_i s1 hrun;rw [zkX] at hrun;have hop : OpT P rd nt ops i (⟨env, defs, heap⟩ : St) (fun s => s = s1) := (zlj hC hR ho hrun).mono fun s' hs' => List.mem_singleton.1 hs'
   have hs1d : s1.defs = defs := zj4 hrun s1 (List.mem_singleton.2 rfl);split at h
   ·cases h
   ·rename_i e' he'
    have hpreEnv : ∀ x v, env.get x = some v → ds.env.get x = some v ∧ ∀ u ∈ all, d.apart u = true → u.o.dst ≠ some x := by
     intro x v hx;rw [← henv] at hx;obtain ⟨h1, h2⟩ := zqT hx;exact ⟨h1, fun u hu ha => h2 u ((husm u).2 ⟨hu, ha⟩)⟩
    have hdsts : ∀ u ∈ all, d.apart u = true → ∀ x, u.o.dst = some x → d.o.dst ≠ some x := by
     intro u hu ha x hx hd;rw [List.all_eq_true] at hdst;have := hdst u ((husm u).2 ⟨hu, ha⟩);rw [hx, hd] at this;simp at this
    have henv' : ∀ x, e'.get x = if d.o.dst = some x then s1.env.get x else ds.env.get x := by
     intro x;split at he'
     ·rename_i hd; cases he'; rw [hd]; simp
     ·rename_i t hd;split at he'
      ·rename_i v hv;cases he';rw [Tr.zaT, hd];by_cases hx : x = t
       ·subst hx; simp [hv]
       ·rw [if_neg hx, if_neg];intro e; exact hx (Option.some.inj e).symm
      ·cases he'
    split at h
    ·rename_i hq;rw [Bool.and_eq_true] at hq;have hq1 := Nat.le_of_ble_eq_true hq.1;have hq2 := Nat.eq_of_beq_eq_true hq.2;cases h;refine ⟨⟨hpreEnv, rfl, hfresh, hdsts, ?_, ?_, henv', fun x => rfl, rfl, rfl, rfl, Nat.le_refl _, fun x hx => (by cases hx), ?_, fun hf => ⟨rfl, hfree hf⟩, fun h => (by cases h), fun _ _ _ h => (by cases h), fun _ _ h => (by cases h), fun _ _ _ _ h => (by cases h), hview⟩, hop⟩
     ·simp only [AHeap.fresh]; rw [hq2]
     ·simp only [AHeap.fresh]; rw [hq2]; exact Nat.le_refl _
     ·intro b hb _;rcases Nat.lt_or_ge b ds.heap.fresh with h | h
      ·exact .inl ⟨by show b < heap.fresh; omega, by show b < s1.heap.low; omega⟩
      ·exact .inr (.inl (by show s1.heap.fresh ≤ b; simp only [AHeap.fresh] at h ⊢; omega))
    ·split at h
     ·cases h
     ·rename_i hnf;have hf : d.free = false := by simpa using hnf
      split at h
      ·cases h
      ·rename_i hmono
       have hmid : ds.heap.next ≤ s1.heap.next := by
        simp only [Bool.not_eq_true', Bool.not_eq_false] at hmono;exact Nat.le_of_ble_eq_true hmono
       have hmid' : ds.heap.fresh ≤ s1.heap.fresh := by simp only [AHeap.fresh]; omega
       split at h
       ·rename_i hs;cases h;refine ⟨⟨hpreEnv, rfl, hfresh, hdsts, rfl, hmid', henv', ?_, rfl, rfl, rfl, Nat.min_le_left _ _, fun x _ _ => Nat.min_le_right _ _, ?_, fun h => (by rw [hf] at h; cases h), fun _ => ⟨?_, hseries hf hs⟩, fun _ _ _ h => (by cases h), fun _ _ h => (by cases h), fun _ _ _ _ h => (by cases h), hview⟩, hop⟩
        ·intro x;by_cases hx : x % 2 = 0
         ·have hh : Touch.has .all x = true := zao.2 hx;rw [if_pos hh, AHeap.get_even _ hx, AHeap.get_even _ hx]
         ·have hh : ¬ Touch.has .all x = true := fun h => hx (zao.1 h)
          rw [if_neg hh, AHeap.get_odd _ (by omega), AHeap.get_odd _ (by omega)]
        ·intro b hb ht;simp only [Touch.has] at ht;rw [← zao] at hb;rw [hb] at ht; cases ht
        ·intro u hu ha;rw [hs, List.all_eq_true] at hser;exact hser u ((husm u).2 ⟨hu, ha⟩)
       ·rename_i hs;have hs' : series = false := by simpa using hs
        split at h
        ·rename_i hq;have hq1 := Nat.le_of_ble_eq_true hq;cases h;have hk : ds.heap.next + (s1.heap.next - ds.heap.next) = s1.heap.next := by omega
         refine ⟨⟨hpreEnv, rfl, hfresh, hdsts, rfl, hmid', henv', ?_, rfl, rfl, by simp [hf], Nat.le_refl _, ?_, ?_, fun h => (by rw [hf] at h; cases h), fun h => (by cases h), ?_, fun _ _ h => (by cases h), fun _ _ _ _ h => (by cases h), hview⟩, hop⟩
         ·intro x
          have hh : Touch.has (.rng ds.heap.next (s1.heap.next - ds.heap.next) s1.heap.blks) x = true ↔ x % 2 = 0 ∧ 2 * ds.heap.next ≤ x ∧ x < 2 * s1.heap.next := by
           simp only [Touch.has, Bool.and_eq_true, Nat.ble_eq, Nat.blt_eq, hk, zao, and_assoc]
          by_cases hx : x % 2 = 0
          ·by_cases hr : ds.heap.next ≤ x / 2 ∧ x / 2 < s1.heap.next
           ·rw [if_pos (hh.2 (by omega)), AHeap.get_even _ hx, AHeap.get_even _ hx, zbZ, hk, if_pos hr]
           ·rw [if_neg (fun h => hr (by have := hh.1 h; omega)), AHeap.get_even _ hx, AHeap.get_even _ hx, zbZ, hk, if_neg hr]
          ·rw [if_neg (fun h => hx (hh.1 h).1), AHeap.get_odd _ (by omega), AHeap.get_odd _ (by omega)]
         ·intro x hx hlt;simp only [Touch.has, Bool.and_eq_true, Nat.ble_eq, Nat.blt_eq] at hx;simp only [AHeap.fresh] at hlt;omega
         ·intro b hb ht;simp only [Touch.has, zao.2 hb, Bool.true_and, hk] at ht;rcases Nat.lt_or_ge b ds.heap.fresh with h | h
          ·exact .inl ⟨by show b < heap.fresh; omega, by show b < s1.heap.low; omega⟩
          ·refine .inr (.inl ?_);show s1.heap.fresh ≤ b;simp only [AHeap.fresh] at h ⊢;rcases Nat.lt_or_ge b (2 * s1.heap.next) with h2 | h2
           ·have : (Nat.ble (2 * ds.heap.next) b && Nat.blt b (2 * s1.heap.next)) = true := by
             simp only [Bool.and_eq_true, Nat.ble_eq, Nat.blt_eq]; omega
            rw [this] at ht; cases ht
           ·exact h2
         ·intro k c src h;cases h;refine ⟨rfl, ?_, rfl⟩;simp only [AHeap.fresh]; omega
        ·cases loc with
         | none =>
          simp only at h;split at h
          ·rename_i b _;split at h
           ·rename_i hchk;simp only [Bool.and_eq_true, Nat.blt_eq, Nat.ble_eq, List.all_eq_true] at hchk;obtain ⟨⟨⟨⟨⟨⟨l1, l2⟩, l3⟩, l4⟩, l5⟩, l6⟩, l7⟩ := hchk;have hev := zao.1 l1;have hgn : s1.heap.get b = none := by simpa using l5
            have hk : ds.heap.next + (s1.heap.next - ds.heap.next) = s1.heap.next := by omega
            cases h
            have hh : ∀ x, Touch.has (.repl b ds.heap.next (s1.heap.next - ds.heap.next) s1.heap.blks) x = true ↔ x = b ∨ (x % 2 = 0 ∧ 2 * ds.heap.next ≤ x ∧ x < 2 * s1.heap.next) := fun x => by
             simp only [Touch.has, Bool.or_eq_true, Nat.beq_eq, Bool.and_eq_true, Nat.ble_eq, Nat.blt_eq, hk, zao, and_assoc]
            refine ⟨⟨hpreEnv, rfl, hfresh, hdsts, rfl, hmid', henv', ?_, rfl, rfl, by simp [hf], Nat.min_le_left _ _, ?_, ?_, fun h => (by rw [hf] at h; cases h), fun h => (by cases h), fun _ _ _ h => (by cases h), fun _ _ h => (by cases h), ?_, hview⟩, hop⟩
            ·intro x;simp only [AHeap.fresh] at l2;by_cases hx : x % 2 = 0
             ·by_cases hr : ds.heap.next ≤ x / 2 ∧ x / 2 < s1.heap.next
              ·rw [if_pos ((hh x).2 (by omega)), AHeap.get_even _ hx, AHeap.get_even _ hx, zbZ, hk, if_pos hr]
              ·by_cases hb : x = b
               ·rw [if_pos ((hh x).2 (.inl hb)), AHeap.get_even _ hx, zbZ, hk, if_neg hr, Tr.zcR, if_pos (by rw [hb]), hb, hgn]
               ·rw [if_neg (fun h => by rcases (hh x).1 h with h | h <;> omega), AHeap.get_even _ hx, AHeap.get_even _ hx, zbZ, hk, if_neg hr, Tr.zcR, if_neg (by omega)]
             ·rw [if_neg (fun h => by rcases (hh x).1 h with h | h <;> omega), AHeap.get_odd _ (by omega), AHeap.get_odd _ (by omega)]
            ·intro x _ _;exact Nat.min_le_right _ _
            ·intro x hx ht
             have hne : ¬ (x = b ∨ (x % 2 = 0 ∧ 2 * ds.heap.next ≤ x ∧ x < 2 * s1.heap.next)) := fun h => by
              have ht : Touch.has (.repl b ds.heap.next (s1.heap.next - ds.heap.next) s1.heap.blks) x = false := ht;rw [(hh x).2 h] at ht; cases ht
             rcases Nat.lt_or_ge x b with h | h
             ·refine .inl ⟨?_, by show x < s1.heap.low; omega⟩;show x < heap.fresh;rw [hfresh]; omega
             ·rcases Nat.lt_or_ge x ds.heap.fresh with h2 | h2
              ·refine .inr (.inr ?_);show s1.heap.get x = heap.get x;rw [AHeap.get_even _ hx, AHeap.get_even _ hx];simp only [AHeap.fresh] at h2;exact zfK l6 (x / 2) (by omega) (by omega)
              ·refine .inr (.inl ?_);show s1.heap.fresh ≤ x;simp only [AHeap.fresh] at h2 ⊢;omega
            ·intro b2 k c src h;cases h;refine ⟨hev, l2, rfl, by simp only [AHeap.fresh]; omega, rfl, hgn, ?_, fun e he ha => ?_⟩
             ·show heap.get b ≠ none;intro e; rw [e] at l4; cases l4
             ·have := l7 e (by rw [← hhs, List.mem_filter]; exact ⟨he, ha⟩);simpa using this
           ·cases h
          ·cases h
         | some by' =>
          obtain ⟨b, y0⟩ := by'
          simp only at h;obtain ⟨_, _, l1, l2, l3, l4⟩ := hlocS b y0 rfl;split at h
          ·rename_i y hy;split at h
           ·rename_i hchk;rw [Bool.and_eq_true] at hchk;have hn := Nat.eq_of_beq_eq_true hchk.1;have hev := zao.1 l1;cases h
            have hheq : heap = ⟨Tr.nil.set (b / 2) y0, fun _ => none, ds.heap.next, ds.heap.fresh⟩ := by
             rw [← hheap]; unfold drawHeap; rw [if_neg (by simp [hf]), if_neg (by simp [hs'])]
            have hpg : (⟨Tr.nil.set (b / 2) y, fun _ => none, ds.heap.next, b⟩ : AHeap).get b = some y := by
             rw [AHeap.get_even _ hev]; simp [Tr.zaT]
            refine ⟨⟨hpreEnv, rfl, hfresh, hdsts, rfl, Nat.le_refl _, henv', ?_, rfl, rfl, by simp [hf], Nat.min_le_left _ _, ?_, ?_, fun h => (by rw [hf] at h; cases h), fun h => (by cases h), fun _ _ _ h => (by cases h), ?_, fun _ _ _ _ h => (by cases h), hview⟩, ?_⟩
            ·intro x;have hh : Touch.has (.cell b y) x = true ↔ x = b := by simp [Touch.has]
             by_cases hx : x = b
             ·rw [if_pos (hh.2 hx)];subst hx;rw [hpg, AHeap.get_even _ hev];simp [Tr.zaT]
             ·rw [if_neg (fun h => hx (hh.1 h))];by_cases hx2 : x % 2 = 0
              ·rw [AHeap.get_even _ hx2, AHeap.get_even _ hx2];simp only [Tr.zaT];rw [if_neg (by omega)]
              ·rw [AHeap.get_odd _ (by omega), AHeap.get_odd _ (by omega)]
            ·intro x hx _;simp only [Touch.has] at hx;exact Nat.min_le_right _ _
            ·intro x hx ht;simp only [Touch.has] at ht
             have hne : x ≠ b := by
              intro e; subst e; simp at ht
             refine .inr (.inr ?_);show (⟨Tr.nil.set (b / 2) y, fun _ => none, ds.heap.next, b⟩ : AHeap).get x = heap.get x;rw [hheq, AHeap.get_even _ hx, AHeap.get_even _ hx];simp only [Tr.zaT, Tr.zbS];rw [if_neg (by omega), if_neg (by omega)]
            ·intro b2 y2 h;cases h;refine ⟨hev, l2, hpg, ?_, fun e he ha => ?_⟩
             ·show heap.get b ≠ none;rw [hheq, AHeap.get_even _ hev]; simp [Tr.zaT]
             ·have := hchk.2;rw [List.all_eq_true] at this;have h2 := this e (by rw [← hhs, List.mem_filter]; exact ⟨he, ha⟩);exact ⟨by simpa using h2, l4 e he ha⟩
            ·exact zqr (s := ⟨env, defs, heap⟩) hheq rfl hev (by simpa [AHeap.fresh] using l2) hop hn hy hs1d
           ·cases h
          ·cases h
  ·cases h
 ·cases h
end
end Go.Den
namespace Go.Den
instance : Inhabited AHeap := ⟨⟨.nil, fun _ => none, 0, 0⟩⟩
instance : Inhabited St := ⟨⟨.nil, [], default⟩⟩
instance : Inhabited DOp := ⟨⟨default, 0, 0, false⟩⟩
instance : Inhabited DT := ⟨⟨default, default, .non⟩⟩
section
variable {P : Program} {C : Ctx} {R : Rec} {rd : Option Nat} {nt : Nat} {ops : Array Oper}
theorem zkA {all : List DOp} {defs : List Nat} : ∀ {l : List DOp} {ds dsf : DS} {trs : List DT}, drawGo P C R nt ops all defs l ds = some (dsf, trs) →
  ∃ f : Nat → DS, f 0 = ds ∧ f l.length = dsf ∧ ∀ i, i < l.length → drawStep P C R nt ops all defs (f i) l[i]! = some (f (i + 1), trs[i]!) := by
 intro l
 induction l with
 | nil => intro ds dsf trs h; simp only [drawGo] at h; cases h; exact ⟨fun _ => ds, rfl, rfl, fun i hi => by simp at hi⟩
 | cons d r ih =>
  intro ds dsf trs h;simp only [drawGo] at h;split at h
  ·cases h
  ·rename_i ds' t ht;split at h
   ·cases h
   ·rename_i e l hl;cases h;obtain ⟨f, h0, h1, h2⟩ := ih hl;refine ⟨fun i => match i with | 0 => ds | i + 1 => f i, rfl, h1, fun i hi => ?_⟩
    cases i with
    | zero => simp only [List.getElem!_cons_zero, h0]; exact ht
    | succ i => simp only [List.getElem!_cons_succ]; exact h2 i (by simpa using hi)
theorem zei {α : Type} {S S2 p : Nat → Bool} {n : Nat} {d : α} {f : Nat → α} (h : ∀ j, j < n → p j = true → S j = S2 j) : pickS S p n d f = pickS S2 p n d f := by
 have : lastOf S p n = lastOf S2 p n := by
  induction n with
  | zero => rfl
  | succ n ih =>
   unfold lastOf;rw [ih fun j hj => h j (by omega)]
   cases hp : p n with
   | false => simp
   | true => rw [h n (by omega) hp]
 unfold pickS; rw [this]
theorem zlf {S p : Nat → Bool} {n d M : Nat} {f : Nat → Nat} (h0 : d ≤ M) (h : ∀ j, j < n → S j = true → p j = true → f j ≤ M) : pickS S p n d f ≤ M := by
 unfold pickS;split
 ·exact h0
 ·rename_i i hi;obtain ⟨a, b, c, _⟩ := zcC hi;exact h i a b c
theorem zec (i : Nat) : (fun j => decide (j < i + 1)) = listing (fun j => decide (j < i)) i := by
 funext j
 simp only [listing];rw [Bool.eq_iff_iff];simp only [decide_eq_true_eq, Bool.or_eq_true, beq_iff_eq];omega
theorem zlS (he : ∀ (i : Nat) o, ops[i]? = some o → ∀ e ∈ o.after, Region.binds .any e = true → e.on < i) {j i : Nat} (h : Bef ops j i) : j < i := by
 induction h with
 | base h1 h2 h3 => exact he _ _ h1 _ h2 h3
 | step h1 h2 h3 _ ih => have := he _ _ h1 _ h2 h3; omega
structure Run (ops : Array Oper) (all : List DOp) (s0 : St) (f : Nat → DS) (D : Nat → DOp) (T : Nat → DT) : Prop where
 mem : ∀ i, i < ops.size → D i ∈ all
 num : ∀ i, i < ops.size → (D i).i = i
 oper : ∀ i, i < ops.size → ops[i]? = some (D i).o
 edges : ∀ (i : Nat) o, ops[i]? = some o → ∀ e ∈ o.after, Region.binds .any e = true → e.on < i
 bef : ∀ i, i < ops.size → ∀ j, Nat.testBit (D i).bef j = true → Bef ops j i
 start : f 0 = ⟨s0.env, s0.heap, s0.heap, []⟩
 ok : ∀ i, i < ops.size → StepOk all s0.defs (f i) (D i) (f (i + 1)) (T i)
namespace Run
variable {all : List DOp} {s0 : St} {f : Nat → DS} {D : Nat → DOp} {T : Nat → DT} (r : Run ops all s0 f D T)
include r
theorem napart {i j : Nat} (hi : i < ops.size) (hj : j < ops.size) (hne : i ≠ j) (h : (D i).apart (D j) = false) : Bef ops j i ∨ Bef ops i j := by
 unfold DOp.apart at h;rw [r.num i hi, r.num j hj] at h;by_cases h1 : Nat.testBit (D i).bef j = true
 ·exact .inl (r.bef i hi j h1)
 ·by_cases h2 : Nat.testBit (D j).bef i = true
  ·exact .inr (r.bef j hj i h2)
  ·simp [hne, h1, h2] at h
omit r in
theorem zcv {i j : Nat} (h : (D i).apart (D j) = true) : (D j).apart (D i) = true := by
 unfold DOp.apart at h ⊢;simp only [Bool.and_eq_true, Bool.not_eq_true', beq_eq_false_iff_ne] at h ⊢;exact ⟨⟨fun e => h.1.1 e.symm, h.2⟩, h.1.2⟩
theorem r1 {s' : Nat → St} {S : Nat → Bool} {i j : Nat} (hr : Ready ops s0 s' S i) (hj : j < i) (h : (D i).apart (D j) = false) : S j = true := by
 have hi := hr.lt;rcases r.napart hi (by omega) (by omega) h with h | h
 ·exact h.listed hr.down hr.bound
 ·have := zlS r.edges h; omega
theorem r2 {s' : Nat → St} {S : Nat → Bool} {i j : Nat} (hr : Ready ops s0 s' S i) (hj : i < j) (hS : S j = true) : (D i).apart (D j) = true := by
 have hjn := (hr.down j hS).1
 cases h : (D i).apart (D j) with
 | true => rfl
 | false =>
  rcases r.napart hr.lt hjn (by omega) h with h | h
  ·have := zlS r.edges h; omega
  ·have := h.listed hr.down (hr.down j hS).2;rw [hr.new] at this; cases this
theorem zch {i j : Nat} (hij : i ≤ j) (hj : j ≤ ops.size) : (f i).heap.fresh ≤ (f j).heap.fresh := by
  induction j with
  | zero => have : i = 0 := by omega
            subst this; exact Nat.le_refl _
  | succ j ih =>
    by_cases e : i = j + 1
    · subst e; exact Nat.le_refl _
    · have h1 := ih (by omega) (by omega);have h2 := r.ok j (by omega);rw [h2.postFresh]; exact Nat.le_trans h1 h2.mid
theorem zls {i x : Nat} (hi : i < ops.size) (h : (T i).t.has x = true) : x % 2 = 0 := by
 cases ht : (T i).t with
 | non => rw [ht] at h; cases h
 | rng k c s => rw [ht] at h; simp only [Touch.has, Bool.and_eq_true, zao] at h; exact h.1.1
 | cell b y =>
  rw [ht] at h;have : x = b := by simpa [Touch.has] using h
  subst this
  exact ((r.ok i hi).isCell _ _ ht).1
 | repl b k c s =>
  rw [ht] at h;simp only [Touch.has, Bool.or_eq_true, Bool.and_eq_true, zao] at h;rcases h with h | h
  ·have : x = b := Nat.eq_of_beq_eq_true h;subst this;exact ((r.ok i hi).isRepl _ _ _ _ ht).1
  ·exact h.1.1
 | all => rw [ht] at h; exact zao.1 h
theorem zbz {i x : Nat} (hi : i < ops.size) (h : (T i).t.has x = true) : (D i).free = false := by
 cases hf : (D i).free with
 | false => rfl
 | true => rw [((r.ok i hi).free hf).1] at h; cases h
theorem envEv (x : Nat) : ∀ i, i ≤ ops.size → (f i).env.get x = pickS (fun j => decide (j < i)) (dstOf ops · x) ops.size (s0.env.get x) (fun j => (T j).post.env.get x) := by
 intro i
 induction i with
 | zero => intro _; rw [r.start]; simp only [Nat.not_lt_zero, decide_false]; rw [zbx]
 | succ i ih =>
  intro hi;rw [(r.ok i (by omega)).env x, zec, zcn (by omega) fun _ j hj _ => by simpa using hj, ← ih (by omega)]
  have : dstOf ops i x = true ↔ (D i).o.dst = some x := by
   unfold dstOf; rw [r.oper i (by omega)]; simp
  by_cases h : (D i).o.dst = some x
  ·rw [if_pos h, if_pos (this.2 h)]
  ·rw [if_neg h, if_neg (fun h' => h (this.1 h'))]
theorem heapEv (x : Nat) : ∀ i, i ≤ ops.size → (f i).heap.get x = pickS (fun j => decide (j < i)) (fun j => (T j).t.has x) ops.size (s0.heap.get x) (fun j => (T j).post.heap.get x) := by
 intro i
 induction i with
 | zero => intro _; rw [r.start]; simp only [Nat.not_lt_zero, decide_false]; rw [zbx]
 | succ i ih =>
  intro hi;rw [(r.ok i (by omega)).heap x, zec, zcn (by omega) fun _ j hj _ => by simpa using hj, ← ih (by omega)]
theorem low_mono {i j : Nat} (hij : i ≤ j) (hj : j ≤ ops.size) : (f j).heap.low ≤ (f i).heap.low := by
  induction j with
  | zero => have : i = 0 := by omega
            subst this; exact Nat.le_refl _
  | succ j ih =>
    by_cases e : i = j + 1
    · subst e; exact Nat.le_refl _
    · exact Nat.le_trans (r.ok j (by omega)).low (ih (by omega) (by omega))
structure Hist (T : Nat → DT) (D : Nat → DOp) (f : Nat → DS) (i q : Nat) : Prop where
 le : q ≤ i
 all : q = 0 ∨ (T (q - 1)).t = .all
 none : ∀ j, q ≤ j → j < i → (T j).t ≠ .all
 base : (f i).base = (f q).heap
 entry : ∀ e ∈ (f i).hist, ∃ j, q ≤ j ∧ j < i ∧ e.d = D j ∧ e.pre = (T j).pre.heap ∧ e.t = (T j).t
 has : ∀ j, q ≤ j → j < i → (D j).free = false → ∃ e ∈ (f i).hist, e.d = D j ∧ e.pre = (T j).pre.heap ∧ e.t = (T j).t
 view : ∀ bef x z, x % 2 = 0 → (viewA bef (f i).base.blks (f i).hist).get (x / 2) = some z →
  (∃ j, q ≤ j ∧ j < i ∧ (T j).t.has x = true ∧ Nat.testBit bef j = true ∧ (T j).post.heap.get x = some z ∧ ∀ j', j < j' → j' < i → (T j').t.has x = false) ∨
  ((f q).heap.get x = some z ∧ ∀ j, q ≤ j → j < i → (T j).t.has x = true → (f j).heap.fresh ≤ x)
theorem histEv : ∀ i, i ≤ ops.size → ∃ q, Hist T D f i q := by
 intro i
 induction i with
 | zero =>
  intro _;refine ⟨0, Nat.le_refl _, .inl rfl, fun j _ hj => by omega, by rw [r.start], fun e he => ?_, fun j _ hj => by omega, fun bef x z hx hz => ?_⟩
  ·rw [r.start] at he; cases he
  ·rw [r.start] at hz ⊢;simp only [viewA] at hz
   exact .inr ⟨by rw [AHeap.get_even _ hx]; exact hz, fun j _ hj => by omega⟩
 | succ i ih =>
  intro hi;obtain ⟨q, h⟩ := ih (by omega);have ok := r.ok i (by omega);have hnum := r.num i (by omega);by_cases hall : (T i).t = .all
  ·have hh : (f (i + 1)).hist = [] := by rw [ok.hist, hall]
   have hb : (f (i + 1)).base = (f (i + 1)).heap := by rw [ok.baseE, hall]
   refine ⟨i + 1, Nat.le_refl _, .inr (by simpa using hall), fun j h1 h2 => by omega, hb, fun e he => ?_, fun j h1 h2 => by omega, fun bef x z hx hz => ?_⟩
   ·rw [hh] at he; cases he
   ·rw [hh, hb] at hz;simp only [viewA] at hz;exact .inr ⟨by rw [AHeap.get_even _ hx]; exact hz, fun j h1 h2 => by omega⟩
  ·have hb : (f (i + 1)).base = (f i).base := by
    rw [ok.baseE];split
    ·rename_i h; exact absurd h hall
    ·rfl
   have hh : (f (i + 1)).hist = if (D i).free then (f i).hist else ⟨D i, (T i).pre.heap, (T i).t⟩ :: (f i).hist := by
    rw [ok.hist];split
    ·rename_i h; exact absurd h hall
    ·rfl
   have hle := h.le;refine ⟨q, by omega, h.all, fun j h1 h2 => ?_, by rw [hb]; exact h.base, fun e he => ?_, fun j h1 h2 hf => ?_, fun bef x z hx hz => ?_⟩
   ·by_cases e : j = i
    ·subst e; exact hall
    ·exact h.none j h1 (by omega)
   ·rw [hh] at he;split at he
    ·obtain ⟨j, a, b, c⟩ := h.entry e he; exact ⟨j, a, by omega, c⟩
    ·rcases List.mem_cons.1 he with rfl | he
     ·exact ⟨i, hle, by omega, rfl, rfl, rfl⟩
     ·obtain ⟨j, a, b, c⟩ := h.entry e he; exact ⟨j, a, by omega, c⟩
   ·rw [hh];by_cases e : j = i
    ·subst e;rw [if_neg (by simp [hf])];exact ⟨_, List.mem_cons_self .., rfl, rfl, rfl⟩
    ·obtain ⟨e, he, k⟩ := h.has j h1 (by omega) hf;split
     ·exact ⟨e, he, k⟩
     ·exact ⟨e, List.mem_cons_of_mem _ he, k⟩
   ·rw [hb, hh] at hz
    -- what the earlier ones left, this one keeping off
    have off : (T i).t.has x = false → (viewA bef (f i).base.blks (f i).hist).get (x / 2) = some z → 
      (∃ j, q ≤ j ∧ j < i + 1 ∧ (T j).t.has x = true ∧ Nat.testBit bef j = true ∧ (T j).post.heap.get x = some z ∧ ∀ j', j < j' → j' < i + 1 → (T j').t.has x = false) ∨
      ((f q).heap.get x = some z ∧ ∀ j, q ≤ j → j < i + 1 → (T j).t.has x = true → (f j).heap.fresh ≤ x) := by
     intro hno hz;rcases h.view bef x z hx hz with ⟨j, a1, a2, a3, a4, a5, a6⟩ | ⟨b1, b2⟩
     ·refine .inl ⟨j, a1, by omega, a3, a4, a5, fun j' h1 h2 => ?_⟩;by_cases e : j' = i
      ·subst e; exact hno
      ·exact a6 j' h1 (by omega)
     ·refine .inr ⟨b1, fun j h1 h2 h3 => ?_⟩;by_cases e : j = i
      ·subst e; rw [hno] at h3; cases h3
      ·exact b2 j h1 (by omega) h3
    split at hz
    ·rename_i hf;exact off (by rw [(ok.free hf).1]; rfl) hz
    ·simp only [viewA] at hz
     cases ht : (T i).t with
     | non => rw [ht] at hz; exact off (by rw [ht]; rfl) hz
     | all => exact absurd ht hall
     | rng k c src =>
      obtain ⟨g1, g2, g3⟩ := ok.isRng k c src ht;rw [ht] at hz;simp only [hnum] at hz
      have hasI : (T i).t.has x = true ↔ k ≤ x / 2 ∧ x / 2 < k + c := by
       rw [ht]; simp only [Touch.has, Bool.and_eq_true, zao, Nat.ble_eq, Nat.blt_eq]; omega
      split at hz
      ·rename_i hbit;rw [zbZ] at hz;split at hz
       ·rename_i hin;refine .inl ⟨i, hle, by omega, hasI.2 hin, hbit, ?_, fun j' h1 h2 => by omega⟩;rw [AHeap.get_even _ hx, ← g3]; exact hz
       ·rename_i hin;refine off ?_ hz
        cases hc : (T i).t.has x with
        | false => rfl
        | true => exact absurd (hasI.1 hc) hin
      ·rename_i hbit
       cases hc : (T i).t.has x with
       | false => exact off hc hz
       | true =>
        rcases h.view bef x z hx hz with ⟨j, a1, a2, a3, a4, a5, a6⟩ | ⟨b1, b2⟩
        ·-- an older one cannot have a block that is newer
         exfalso;have hin := hasI.1 hc;have okj := r.ok j (by omega);have hfr := r.zch (i := j + 1) (j := i) (by omega) (by omega);have hfr0 := r.zch (i := j) (j := i) (by omega) (by omega)
         cases htj : (T j).t with
         | non => rw [htj] at a3; cases a3
         | all => exact h.none j a1 a2 htj
         | rng k2 c2 s2 =>
          obtain ⟨q1, q2, _⟩ := okj.isRng _ _ _ htj;rw [htj] at a3;simp only [Touch.has, Bool.and_eq_true, zao, Nat.ble_eq, Nat.blt_eq] at a3;rw [okj.postFresh] at hfr
          omega
         | cell b y =>
          obtain ⟨q1, q2, _⟩ := okj.isCell _ _ htj;rw [htj] at a3;have : x = b := by simpa [Touch.has] using a3
          omega
         | repl b k2 c2 s2 =>
          obtain ⟨q1, q2, q3, q4, _⟩ := okj.isRepl _ _ _ _ htj;rw [htj] at a3;rw [okj.postFresh] at hfr;simp only [Touch.has, Bool.or_eq_true, Bool.and_eq_true, zao, Nat.ble_eq, Nat.blt_eq] at a3;rcases a3 with a3 | a3
          ·have : x = b := Nat.eq_of_beq_eq_true a3;omega
          ·omega
        ·refine .inr ⟨b1, fun j h1 h2 h3 => ?_⟩;by_cases e : j = i
         ·subst e; have hin := hasI.1 hc; omega
         ·exact b2 j h1 (by omega) h3
     | cell b y =>
      obtain ⟨g1, g2, g3, _⟩ := ok.isCell b y ht;rw [ht] at hz;simp only [hnum] at hz;have hasI : (T i).t.has x = true ↔ x = b := by rw [ht]; simp [Touch.has]
      split at hz
      ·rename_i hbit;rw [Tr.zaT] at hz;split at hz
       ·rename_i hin;have : x = b := by omega
        cases hz;refine .inl ⟨i, hle, by omega, hasI.2 this, hbit, by rw [this]; exact g3, fun j' h1 h2 => by omega⟩
       ·rename_i hin;refine off ?_ hz
        cases hc : (T i).t.has x with
        | false => rfl
        | true => exact absurd (by rw [hasI.1 hc]) hin
      ·rename_i hbit;rw [Tr.zcR] at hz;split at hz
       ·cases hz
       ·rename_i hin;refine off ?_ hz
        cases hc : (T i).t.has x with
        | false => rfl
        | true => exact absurd (by rw [hasI.1 hc]) hin
     | repl b k c src =>
      obtain ⟨g0, g1, g2, g3, g4, g5, _⟩ := ok.isRepl b k c src ht;rw [ht] at hz;simp only [hnum] at hz
      have hasI : (T i).t.has x = true ↔ x = b ∨ (k ≤ x / 2 ∧ x / 2 < k + c) := by
       rw [ht]; simp only [Touch.has, Bool.or_eq_true, Bool.and_eq_true, zao, Nat.ble_eq, Nat.blt_eq, Nat.beq_eq]; omega
      split at hz
      ·rename_i hbit;rw [zbZ] at hz;split at hz
       ·rename_i hin;refine .inl ⟨i, hle, by omega, hasI.2 (.inr hin), hbit, ?_, fun j' h1 h2 => by omega⟩;rw [AHeap.get_even _ hx, ← g4]; exact hz
       ·rename_i hin;rw [Tr.zcR] at hz;split at hz
        ·cases hz
        ·rename_i hin2;refine off ?_ hz
         cases hc : (T i).t.has x with
         | false => rfl
         | true =>
          rcases hasI.1 hc with h1 | h1
          ·exact absurd (by rw [h1]) hin2
          ·exact absurd h1 hin
      ·rename_i hbit;rw [Tr.zcR] at hz;split at hz
       ·cases hz
       ·rename_i hin2
        cases hc : (T i).t.has x with
        | false => exact off hc hz
        | true =>
         have hin : k ≤ x / 2 ∧ x / 2 < k + c := by
          rcases hasI.1 hc with h1 | h1
          ·exact absurd (by rw [h1]) hin2
          ·exact h1
         rcases h.view bef x z hx hz with ⟨j, a1, a2, a3, a4, a5, a6⟩ | ⟨b1, b2⟩
         ·exfalso;have okj := r.ok j (by omega);have hfr := r.zch (i := j + 1) (j := i) (by omega) (by omega);have hfr0 := r.zch (i := j) (j := i) (by omega) (by omega)
          cases htj : (T j).t with
          | non => rw [htj] at a3; cases a3
          | all => exact h.none j a1 a2 htj
          | rng k2 c2 s2 =>
           obtain ⟨q1, q2, _⟩ := okj.isRng _ _ _ htj;rw [htj] at a3;simp only [Touch.has, Bool.and_eq_true, zao, Nat.ble_eq, Nat.blt_eq] at a3;rw [okj.postFresh] at hfr
           omega
          | cell b y =>
           obtain ⟨q1, q2, _⟩ := okj.isCell _ _ htj;rw [htj] at a3;have : x = b := by simpa [Touch.has] using a3
           omega
          | repl b k2 c2 s2 =>
           obtain ⟨q1, q2, q3, q4, _⟩ := okj.isRepl _ _ _ _ htj;rw [htj] at a3;rw [okj.postFresh] at hfr;simp only [Touch.has, Bool.or_eq_true, Bool.and_eq_true, zao, Nat.ble_eq, Nat.blt_eq] at a3;rcases a3 with a3 | a3
           ·have : x = b := Nat.eq_of_beq_eq_true a3;omega
           ·omega
         ·refine .inr ⟨b1, fun j h1 h2 h3 => ?_⟩;by_cases e : j = i
          ·subst e; omega
          ·exact b2 j h1 (by omega) h3
end Run
end
end Go.Den
namespace Go.Den
section
variable {P : Program} {C : Ctx} {R : Rec} {rd : Option Nat} {nt : Nat} {ops : Array Oper}
namespace Run
variable {all : List DOp} {s0 : St} {f : Nat → DS} {D : Nat → DOp} {T : Nat → DT} (r : Run ops all s0 f D T)
include r
theorem zh6 {q i : Nat} (hq : q < ops.size) (hi : i < ops.size) (h : (T q).t = .all) (hf : (D i).free = false) (hlt : i < q) : Bef ops i q := by
 have ha : (D q).apart (D i) = false := by
  cases h' : (D q).apart (D i) with
  | false => rfl
  | true => have := ((r.ok q hq).isAll h).1 (D i) (r.mem i hi) h'; rw [hf] at this; cases this
 rcases r.napart hq hi (by omega) ha with h | h
 ·exact h
 ·have := zlS r.edges h; omega
theorem ze8 {q i : Nat} (hq : q < ops.size) (hi : i < ops.size) (h : (T q).t = .all) (hf : (D i).free = false) (hlt : q < i) : Bef ops q i := by
 have ha : (D q).apart (D i) = false := by
  cases h' : (D q).apart (D i) with
  | false => rfl
  | true => have := ((r.ok q hq).isAll h).1 (D i) (r.mem i hi) h'; rw [hf] at this; cases this
 rcases r.napart hq hi (by omega) ha with h | h
 ·have := zlS r.edges h; omega
 ·exact h
theorem ziB {s' : Nat → St} {S : Nat → Bool} {i k q : Nat} (hr : Ready ops s0 s' S i) (hk : i < k) (hS : S k = true) (hfi : (D i).free = false) (hfk : (D k).free = false) (h : Hist T D f k q) :
  ∃ e ∈ (f k).hist, e.d = D i ∧ e.pre = (T i).pre.heap ∧ e.t = (T i).t := by
 have hkn := (hr.down k hS).1;have hi := hr.lt
 have no : ¬ Bef ops i k := fun hb => by
  have := hb.listed hr.down (hr.down k hS).2;rw [hr.new] at this; cases this
 refine h.has i ?_ hk hfi;rcases Nat.lt_or_ge i q with hlt | hge
 ·exfalso;have hqk := h.le;have hall := h.all.resolve_left (by omega);by_cases e : q - 1 = i
  ·rw [e] at hall;exact no (r.ze8 hi hkn hall hfk hk)
  ·have h1 := r.zh6 (q := q - 1) (i := i) (by omega) hi hall hfi (by omega);by_cases e2 : q - 1 = k
   ·omega
   ·exact no (h1.trans (r.ze8 (q := q - 1) (i := k) (by omega) hkn hall hfk (by omega)))
 ·exact hge
theorem later {s' : Nat → St} {S : Nat → Bool} {i k x : Nat} (hr : Ready ops s0 s' S i) (hk : i < k) (hS : S k = true) (hx : (T i).pre.heap.get x ≠ none) (hlt : x < (f i).heap.fresh) : (T k).t.has x = false := by
 cases hh : (T k).t.has x with
 | false => rfl
 | true =>
  exfalso;have hkn := (hr.down k hS).1;have hi := hr.lt;have hfk := r.zbz hkn hh
  have hfi : (D i).free = false := by
   cases hf : (D i).free with
   | false => rfl
   | true => exact absurd (((r.ok i hi).free hf).2 x) hx
  have hap := r.r2 hr hk hS;have ok := r.ok k hkn
  cases ht : (T k).t with
  | non => rw [ht] at hh; cases hh
  | all =>
   have := (ok.isAll ht).1 (D i) (r.mem i hi) (zcv hap)
   rw [hfi] at this; cases this
  | rng k0 c s =>
   obtain ⟨q1, _, _⟩ := ok.isRng _ _ _ ht;have := r.zch (i := i) (j := k) (by omega) (by omega);rw [ht] at hh;simp only [Touch.has, Bool.and_eq_true, Nat.ble_eq, Nat.blt_eq] at hh
   omega
  | cell b y =>
   obtain ⟨_, _, _, _, q5⟩ := ok.isCell _ _ ht;rw [ht] at hh;have hxb : x = b := by simpa [Touch.has] using hh
   obtain ⟨q, hq⟩ := r.histEv k (by omega);obtain ⟨e, he, e1, e2, e3⟩ := r.ziB hr hk hS hfi hfk hq;have := (q5 e he (by rw [e1]; exact zcv hap)).1;rw [e2, ← hxb] at this
   exact hx this
  | repl b k0 c s =>
   obtain ⟨_, _, q1, _, _, _, _, q5⟩ := ok.isRepl _ _ _ _ ht;have hfm := r.zch (i := i) (j := k) (by omega) (by omega);rw [ht] at hh;simp only [Touch.has, Bool.or_eq_true, Bool.and_eq_true, Nat.ble_eq, Nat.blt_eq] at hh;rcases hh with hh | hh
   ·have hxb : x = b := Nat.eq_of_beq_eq_true hh;obtain ⟨q, hq⟩ := r.histEv k (by omega);obtain ⟨e, he, e1, e2, e3⟩ := r.ziB hr hk hS hfi hfk hq;have := (q5 e he (by rw [e1]; exact zcv hap)).1;rw [e2, ← hxb] at this;exact hx this
   ·omega
theorem zpP {i x : Nat} (hi : i < ops.size) (h : (T i).t.has x = true) (ha : (T i).t ≠ .all) : x < (T i).post.heap.fresh := by
 have ok := r.ok i hi
 cases ht : (T i).t with
 | non => rw [ht] at h; cases h
 | all => exact absurd ht ha
 | rng k c s =>
  obtain ⟨q1, q2, _⟩ := ok.isRng _ _ _ ht;rw [ht] at h;simp only [Touch.has, Bool.and_eq_true, Nat.ble_eq, Nat.blt_eq] at h
  omega
 | cell b y =>
  obtain ⟨q1, q2, _⟩ := ok.isCell _ _ ht;rw [ht] at h;have : x = b := by simpa [Touch.has] using h
  have := ok.mid
  omega
 | repl b k c s =>
  obtain ⟨q1, q2, q3, q4, _⟩ := ok.isRepl _ _ _ _ ht;rw [ht] at h;have := ok.mid;simp only [Touch.has, Bool.or_eq_true, Bool.and_eq_true, Nat.ble_eq, Nat.blt_eq] at h;rcases h with h | h
  ·have : x = b := Nat.eq_of_beq_eq_true h;omega
  ·omega
theorem hi' {i j : Nat} (hij : i < j) (hj : j < ops.size) : (T i).post.heap.fresh ≤ (T j).pre.heap.fresh := by
 rw [← (r.ok i (by omega)).postFresh, (r.ok j hj).preFresh];exact r.zch (by omega) (by omega)
theorem lo' {i : Nat} (hi : i < ops.size) : s0.heap.fresh ≤ (T i).pre.heap.fresh := by
 rw [(r.ok i hi).preFresh];have := r.zch (i := 0) (j := i) (by omega) (by omega);rw [r.start] at this; exact this
theorem viewH {S : Nat → Bool} {i : Nat} (hr : Ready ops s0 (fun j => (T j).post) S i) {x : Nat} {z : ABlk} (hx : (T i).pre.heap.get x = some z) :
    pickS S (fun j => (T j).t.has x) ops.size (s0.heap.get x) (fun j => (T j).post.heap.get x) = some z ∧
    pickS S (fun j => (T j).t.has x) ops.size s0.heap.fresh (fun j => (T j).post.heap.fresh) ≤ (T i).pre.heap.fresh := by
  have hi := hr.lt;have ok := r.ok i hi;have hlo := r.lo' hi;have hne : (T i).pre.heap.get x ≠ none := by rw [hx]; simp
  have hfi : (D i).free = false := by
    cases hf : (D i).free with
    | false => rfl
    | true => rw [(ok.free hf).2 x] at hx; cases hx
  -- where the listed ones that touch it are those before
  have same : (f i).heap.get x = some z → (∀ j, j < i → (T j).t.has x = true → S j = true) → (∀ j, i < j → j < ops.size → S j = true → (T j).t.has x = false) →
      pickS S (fun j => (T j).t.has x) ops.size (s0.heap.get x) (fun j => (T j).post.heap.get x) = some z ∧
      pickS S (fun j => (T j).t.has x) ops.size s0.heap.fresh (fun j => (T j).post.heap.fresh) ≤ (T i).pre.heap.fresh := by
    intro h1 h2 h3
    have hc : ∀ j, j < ops.size → (T j).t.has x = true → S j = decide (j < i) := by
      intro j hj hh;by_cases hlt : j < i
      · rw [h2 j hlt hh]; simp [hlt]
      · by_cases e : j = i
        · subst e; rw [hr.new]; simp
        · cases hS : S j with
          | true => rw [h3 j (by omega) hj hS] at hh; cases hh
          | false => simp [hlt]
    constructor
    · rw [zei hc, ← r.heapEv x i (by omega)]; exact h1
    · refine zlf hlo fun j hj hS hh => ?_
      have : j < i := by have := hc j hj hh; rw [hS] at this; simpa using this.symm
      exact r.hi' this hi
  by_cases hev : x % 2 = 0
  · have past : ∀ {q : Nat}, Hist T D f i q → ∀ j, j < q → (D j).free = false → S j = true := by
      intro q hq j hj hfj;have hle := hq.le;have hall := hq.all.resolve_left (by omega);have h1 := r.ze8 (q := q - 1) (i := i) (by omega) hi hall hfi (by omega);by_cases e : j = q - 1
      · rw [e]; exact h1.listed hr.down hr.bound
      · exact ((r.zh6 (q := q - 1) (i := j) (by omega) (by omega) hall hfj (by omega)).trans h1).listed hr.down hr.bound
    rcases ok.view with hf | ⟨hs1, hs2⟩ | ⟨b, y, b1, b2, b3, b4, b5⟩ | hv
    · rw [hfi] at hf; cases hf
    · -- alone with the heap
      have hz : (f i).heap.get x = some z := by rw [← hs2 x]; exact hx
      have h2 : ∀ j, j < i → (D j).free = false → S j = true := by
        intro j hj hfj;refine r.r1 hr hj ?_
        cases h' : (D i).apart (D j) with
        | false => rfl
        | true => have := hs1 (D j) (r.mem j (by omega)) h'; rw [hfj] at this; cases this
      refine same hz (fun j hj hh => h2 j hj (r.zbz (by omega) hh)) fun j hj hjn hS => ?_
      refine r.later hr hj hS hne ?_
      -- the block lies below the next
      have hc : ∀ j, j < i → (T j).t.has x = true → Closed (T j).post.heap := fun j hj hh => hr.closed j (h2 j hj (r.zbz (by omega) hh))
      rw [r.heapEv x i (by omega)] at hz;unfold pickS at hz;split at hz
      · rcases Nat.lt_or_ge x s0.heap.fresh with h | h
        · have := r.lo' hi; rw [ok.preFresh] at this; omega
        · rw [hr.closed0 x hev h] at hz; cases hz
      · rename_i j hl;obtain ⟨a1, a2, a3, _⟩ := zcC hl;have hj' : j < i := by simpa using a2
        rcases Nat.lt_or_ge x (T j).post.heap.fresh with h | h
        · have := r.hi' hj' hi; rw [ok.preFresh] at this; omega
        · have hz' : (T j).post.heap.get x = some z := hz;rw [hc j hj' a3 x hev h] at hz'; cases hz'
    · -- one block
      obtain ⟨rfl, rfl⟩ := b4 x z hx;obtain ⟨q, hq⟩ := r.histEv i (by omega);refine same b3 (fun j hj hh => ?_) fun j hj hjn hS => r.later hr hj hS hne b2
      have hfj := r.zbz (by omega) hh;rcases Nat.lt_or_ge j q with hlt | hge
      · exact past hq j hlt hfj
      · refine r.r1 hr hj ?_
        cases h' : (D i).apart (D j) with
        | false => rfl
        | true =>
          obtain ⟨e, he, e1, e2, e3⟩ := hq.has j hge hj hfj;have := b5 e he (by rw [e1]; exact h');rw [e3, hh] at this; cases this
    · -- the heap of the ones before
      rcases hv x z hx with ⟨h1, _⟩ | ⟨_, h2⟩
      · omega
      obtain ⟨q, hq⟩ := r.histEv i (by omega);have hqi := hq.le;rcases hq.view _ x z hev h2 with ⟨j, a1, a2, a3, a4, a5, a6⟩ | ⟨g1, g2⟩
      · have hSj : S j = true := (r.bef i hi j a4).listed hr.down hr.bound
        have hxlt : x < (f i).heap.fresh := by
          have h1 := r.zpP (by omega) a3 (hq.none j a1 a2);have h2 := r.hi' a2 hi;rw [ok.preFresh] at h2; omega
        have hl : lastOf S (fun j => (T j).t.has x) ops.size = some j := by
          refine zgW (by omega) hSj a3 fun j' h1 h2 h3 => ?_
          by_cases hlt : j' < i
          · exact a6 j' h1 hlt
          · by_cases e : j' = i
            · subst e; rw [hr.new] at h3; cases h3
            · exact r.later hr (by omega) h3 hne hxlt
        unfold pickS;rw [hl];exact ⟨a5, r.hi' a2 hi⟩
      · -- the block lay before
        have hbase : Closed (f q).heap := by
          rcases hq.all with h0 | hall
          · rw [h0, r.start]; exact hr.closed0
          · by_cases h0 : q = 0
            · rw [h0, r.start]; exact hr.closed0
            · have hok := r.ok (q - 1) (by omega);have hSq : S (q - 1) = true := (r.ze8 (q := q - 1) (i := i) (by omega) hi hall hfi (by omega)).listed hr.down hr.bound;have hc := hr.closed (q - 1) hSq;intro y hy hlt;have e : q - 1 + 1 = q := by omega
              rw [e] at hok;rw [hok.heap y, hall];have : Touch.all.has y = true := zao.2 hy;rw [if_pos this];rw [hok.postFresh] at hlt;exact hc y hy hlt
        have hxq : x < (f q).heap.fresh := by
          rcases Nat.lt_or_ge x (f q).heap.fresh with h | h
          · exact h
          · rw [hbase x hev h] at g1; cases g1
        have hfr := r.zch hqi (by omega)
        have none : ∀ j, q ≤ j → j < i → (T j).t.has x = false := by
          intro j h1 h2
          cases hh : (T j).t.has x with
          | false => rfl
          | true =>
            have := g2 j h1 h2 hh;have := r.zch h1 (by omega : j ≤ ops.size);omega
        have hz : (f i).heap.get x = some z := by
          have key : ∀ m, q ≤ m → m ≤ i → (f m).heap.get x = some z := by
            intro m
            induction m with
            | zero => intro h1 _; have : q = 0 := by omega
                      rw [this] at g1; exact g1
            | succ m ih =>
              intro h1 h2;by_cases e : q = m + 1
              · rw [← e]; exact g1
              · rw [(r.ok m (by omega)).heap x, none m (by omega) (by omega)];exact ih (by omega) (by omega)
          exact key i hqi (Nat.le_refl _)
        refine same hz (fun j hj hh => ?_) fun j hj hjn hS => r.later hr hj hS hne (by omega)
        rcases Nat.lt_or_ge j q with hlt | hge
        · exact past hq j hlt (r.zbz (by omega) hh)
        · rw [none j hge hj] at hh; cases hh
  · have none : ∀ j, j < ops.size → (T j).t.has x = false := by
      intro j hj
      cases hh : (T j).t.has x with
      | false => rfl
      | true => exact absurd (r.zls hj hh) hev
    have hz : (f i).heap.get x = some z := by
      rcases ok.view with hf | ⟨_, hs2⟩ | ⟨b, y, b1, b2, b3, b4, b5⟩ | hv
      · rw [hfi] at hf; cases hf
      · rw [← hs2 x]; exact hx
      · obtain ⟨rfl, rfl⟩ := b4 x z hx; exact absurd b1 hev
      · rcases hv x z hx with ⟨_, h⟩ | ⟨h, _⟩
        · exact h
        · exact absurd h hev
    exact same hz (fun j hj hh => by rw [none j (by omega)] at hh; cases hh) fun j _ hj _ => none j hj
theorem drawOk {dsf : DS} (hf : f ops.size = dsf) : DrawOk ops s0 ⟨dsf.env, s0.defs, dsf.heap⟩ (fun i => (T i).pre) (fun i => (T i).post) (fun i x => (T i).t.has x) := by
 have dst : ∀ i x, i < ops.size → (dstOf ops i x = true ↔ (D i).o.dst = some x) := by
  intro i x hi; unfold dstOf; rw [r.oper i hi]; simp
 subst hf
 refine ⟨r.edges, fun i hi => (r.ok i hi).preDefs, fun i hi => r.lo' hi, fun i hi => by rw [(r.ok i hi).preFresh]; exact (r.ok i hi).mid, fun i j hij hj => r.hi' hij hj, fun i hi b h => r.zls hi h,
  fun i hi => (r.ok i hi).quiet, ?_, ?_, fun S i hr b x hx => r.viewH hr hx, ?_, ?_, ?_, ?_, ?_, ?_, rfl, ?_, ?_, ?_⟩
 ·-- exact
  intro S i hr b ht hlt;have hi := hr.lt;have ok := r.ok i hi;have hlo := r.lo' hi
  cases hv : (T i).pre.heap.get b with
  | some z => exact (r.viewH hr hv).1.symm
  | none =>
   cases hti : (T i).t with
   | non => rw [hti] at ht; cases ht
   | rng k c s =>
    obtain ⟨q1, _, _⟩ := ok.isRng _ _ _ hti;rw [hti] at ht;simp only [Touch.has, Bool.and_eq_true, Nat.ble_eq, Nat.blt_eq] at ht;rw [ok.preFresh] at hlo
    omega
   | cell b' y =>
    obtain ⟨_, _, _, q4, _⟩ := ok.isCell _ _ hti;rw [hti] at ht;have : b = b' := by simpa [Touch.has] using ht
    subst this
    exact absurd hv q4
   | repl b' k c s =>
    obtain ⟨_, _, q1, _, _, _, q4, _⟩ := ok.isRepl _ _ _ _ hti;rw [hti] at ht;simp only [Touch.has, Bool.or_eq_true, Bool.and_eq_true, Nat.ble_eq, Nat.blt_eq] at ht;rcases ht with ht | ht
    ·have : b = b' := Nat.eq_of_beq_eq_true ht;subst this;exact absurd hv q4
    ·rw [ok.preFresh] at hlo
     omega
   | all =>
    obtain ⟨h1, h2⟩ := ok.isAll hti;rw [h2 b, r.heapEv b i (by omega)] at hv;rw [← hv]
    symm
    refine zei fun j hj hh => ?_
    have hfj := r.zbz hj hh
    have nap : (D i).apart (D j) = false := by
     cases h' : (D i).apart (D j) with
     | false => rfl
     | true => have := h1 (D j) (r.mem j hj) h'; rw [hfj] at this; cases this
    by_cases hlt : j < i
    ·rw [r.r1 hr hlt nap]; simp [hlt]
    ·by_cases e : j = i
     ·subst e; rw [hr.new]; simp
     ·cases hS : S j with
      | false => simp [hlt]
      | true => have := r.r2 hr (by omega) hS; rw [nap] at this; cases this
 ·-- viewE
  intro S i hr t v hv;have hi := hr.lt;have ok := r.ok i hi;obtain ⟨h1, h2⟩ := ok.preEnv t v hv
  have hc : ∀ j, j < ops.size → dstOf ops j t = true → S j = decide (j < i) := by
   intro j hj hd;have hd' := (dst j t hj).1 hd;by_cases e : j = i
   ·subst e; rw [hr.new]; simp
   ·have nap : (D i).apart (D j) = false := by
     cases h' : (D i).apart (D j) with
     | false => rfl
     | true => exact absurd hd' (h2 (D j) (r.mem j hj) h')
    by_cases hlt : j < i
    ·rw [r.r1 hr hlt nap]; simp [hlt]
    ·cases hS : S j with
     | false => simp [hlt]
     | true => have := r.r2 hr (by omega) hS; rw [nap] at this; cases this
  constructor
  ·rw [zei hc, ← r.envEv t i (by omega)]; exact h1
  ·refine zlf (r.lo' hi) fun j hj hS hd => ?_
   have : j < i := by have := hc j hj hd; rw [hS] at this; simpa using this.symm
   exact r.hi' this hi
 ·-- lateE
  intro S i hr t hd j hS hdj;have hi := hr.lt;have hj := (hr.down j hS).1;rcases Nat.lt_or_ge j i with h | h
  ·exact h
  ·exfalso;have hne : j ≠ i := by intro e; subst e; rw [hr.new] at hS; cases hS
   have hap := r.r2 hr (by omega) hS;exact (r.ok i hi).dsts (D j) (r.mem j hj) hap t ((dst j t hj).1 hdj) ((dst i t hi).1 hd)
 ·-- lateH
  intro S i hr b hd j hS hdj;have hi := hr.lt;have hj := (hr.down j hS).1;rcases Nat.lt_or_ge j i with h | h
  ·exact h
  ·exfalso;have hne : j ≠ i := by intro e; subst e; rw [hr.new] at hS; cases hS
   have hlt : i < j := by omega
   have hap := r.r2 hr hlt hS;have hfi := r.zbz hi hd;have hfj := r.zbz hj hdj;have oki := r.ok i hi;have okj := r.ok j hj
   have key : (T i).t.has b = true → (f i).heap.fresh ≤ b → b < (T i).post.heap.fresh → False := by
    intro hd0 hge hltb;have hfr := r.hi' hlt hj;rw [okj.preFresh] at hfr
    cases htj : (T j).t with
    | non => rw [htj] at hdj; cases hdj
    | all => have := (okj.isAll htj).1 (D i) (r.mem i hi) (zcv hap); rw [hfi] at this; cases this
    | rng k2 c2 s2 =>
     obtain ⟨p1, _, _⟩ := okj.isRng _ _ _ htj;rw [htj] at hdj;simp only [Touch.has, Bool.and_eq_true, Nat.ble_eq, Nat.blt_eq] at hdj
     omega
    | cell b2 y2 =>
     obtain ⟨_, _, _, _, p5⟩ := okj.isCell _ _ htj;rw [htj] at hdj;have hbb : b = b2 := by simpa [Touch.has] using hdj
     obtain ⟨q, hq⟩ := r.histEv j (by omega);obtain ⟨e, he, e1, e2, e3⟩ := r.ziB hr hlt hS hfi hfj hq;have := (p5 e he (by rw [e1]; exact zcv hap)).2;rw [e3, ← hbb, hd0] at this
     cases this
    | repl b2 k2 c2 s2 =>
     obtain ⟨_, _, p1, _, _, _, _, p5⟩ := okj.isRepl _ _ _ _ htj;rw [htj] at hdj;simp only [Touch.has, Bool.or_eq_true, Bool.and_eq_true, Nat.ble_eq, Nat.blt_eq] at hdj;rcases hdj with hdj | hdj
     ·have hbb : b = b2 := Nat.eq_of_beq_eq_true hdj;obtain ⟨q, hq⟩ := r.histEv j (by omega);obtain ⟨e, he, e1, e2, e3⟩ := r.ziB hr hlt hS hfi hfj hq;have := (p5 e he (by rw [e1]; exact zcv hap)).2;rw [e3, ← hbb, hd0] at this;cases this
     ·omega
   cases hti : (T i).t with
   | non => rw [hti] at hd; cases hd
   | all => have := (oki.isAll hti).1 (D j) (r.mem j hj) hap; rw [hfj] at this; cases this
   | cell b' y =>
    obtain ⟨_, q2, _, q4, _⟩ := oki.isCell _ _ hti;rw [hti] at hd;have : b = b' := by simpa [Touch.has] using hd
    subst this
    rw [r.later hr hlt hS q4 q2] at hdj; cases hdj
   | repl b' k c s =>
    obtain ⟨_, q2, q1, q3, _, _, q4, _⟩ := oki.isRepl _ _ _ _ hti;have hd0 := hd;rw [hti] at hd;simp only [Touch.has, Bool.or_eq_true, Bool.and_eq_true, Nat.ble_eq, Nat.blt_eq] at hd;rcases hd with hd | hd
    ·have : b = b' := Nat.eq_of_beq_eq_true hd;subst this;rw [r.later hr hlt hS q4 q2] at hdj; cases hdj
    ·exact key hd0 (by omega) (by omega)
   | rng k c s =>
    obtain ⟨q1, q2, _⟩ := oki.isRng _ _ _ hti;have hd0 := hd;rw [hti] at hd;simp only [Touch.has, Bool.and_eq_true, Nat.ble_eq, Nat.blt_eq] at hd;exact key hd0 (by omega) (by omega)
 ·intro t v hv;rw [← r.envEv t ops.size (Nat.le_refl _)]; exact hv
 ·intro _ _ b x hb;rw [← r.heapEv b ops.size (Nat.le_refl _)]; exact hb
 ·intro i hi;show (T i).post.heap.fresh ≤ (f ops.size).heap.fresh;rw [← (r.ok i hi).postFresh];exact r.zch (by omega) (Nat.le_refl _)
 ·have := r.zch (i := 0) (j := ops.size) (by omega) (Nat.le_refl _);rw [r.start] at this; exact this
 ·have := r.low_mono (i := 0) (j := ops.size) (by omega) (Nat.le_refl _);rw [r.start] at this; exact this
 ·intro i b hi ht hlt;have h0 := r.lo' hi;rw [(r.ok i hi).preFresh] at h0;exact Nat.le_trans (r.low_mono (i := i + 1) (j := ops.size) (by omega) (Nat.le_refl _)) ((r.ok i hi).lowT b ht (by omega))
 ·intro b _;exact r.heapEv b ops.size (Nat.le_refl _)
end Run
theorem ziP (hC : CtxOk P C) (hR : RecOk P R) {s : St} {outs : List St} (h : drawOps P C R nt ops s = some outs) {id : Nat} : CodeT P rd nt (.region id ops true) s (fun x s' => x = .normal ∧ s' ∈ outs) := by
 unfold drawOps at h;split at h
 ·cases h
 ·rename_i all hall;split at h
  ·cases h
  ·rename_i ds trs hgo;cases h;obtain ⟨p1, p2⟩ := zgM (ops := ops) hall (fun i => by simp) (fun m b hm => by simp [Tr.zbS] at hm);obtain ⟨f, f0, f1, f2⟩ := zkA hgo;have hlen : all.length = ops.size := by simpa using p1
   have hD : ∀ i, i < ops.size → all[i]? = some all[i]! := by
    intro i hi;rw [List.getElem!_eq_getElem?_getD, List.getElem?_eq_getElem (by omega)]; rfl
   have hst : ∀ i, i < ops.size → StepOk all s.defs (f i) all[i]! (f (i + 1)) trs[i]! ∧ OpT P rd nt ops i (trs[i]!).pre (fun x => x = (trs[i]!).post) := by
    intro i hi;have := (p2 i _ (hD i hi)).2.1;exact zky hC hR (by simpa using this) (f2 i (by omega))
   have r : Run ops all s f (fun i => all[i]!) (fun i => trs[i]!) := by
    refine ⟨fun i hi => List.mem_of_getElem? (hD i hi), fun i hi => by simpa using (p2 i _ (hD i hi)).1, fun i hi => by simpa using (p2 i _ (hD i hi)).2.1, ?_, fun i hi j hj => by simpa using (p2 i _ (hD i hi)).2.2.2 j hj, f0, fun i hi => (hst i hi).1⟩;intro i o ho e he hb;have hi : i < ops.size := (Array.getElem?_eq_some_iff.1 ho).1;have h1 := (p2 i _ (hD i hi)).2.1;simp only [Nat.zero_add] at h1;rw [ho] at h1;cases h1;have := (p2 i _ (hD i hi)).2.2.1 e he hb;omega
   rw [hlen] at f1;exact zh1 hC.mixed (r.drawOk f1) (fun i hi => (hst i hi).2) ⟨rfl, List.mem_singleton.2 rfl⟩
end
end Go.Den
namespace Go.Den
section
variable {P : Program} {C : Ctx} {R : Rec} {rd : Option Nat} {nt : Nat} {ops : Array Oper}
theorem zjO (hC : CtxOk P C) (hR : RecOk P R) {s : St} {outs : List St} (h : seqOps P C R nt ops ops.toList s = some outs) {id : Nat} : CodeT P rd nt (.region id ops false) s (fun x s' => x = .normal ∧ s' ∈ outs) := by
 refine zfS (fun i s => ∃ o, seqOps P C R nt ops (ops.toList.drop i) s = some o ∧ ∀ x ∈ o, x ∈ outs) ⟨outs, by simpa using h, fun _ h => h⟩ ?_ ?_
 ·rintro i s1 hi ⟨o, ho, hsub⟩
  have hd : ops.toList.drop i = ops[i] :: ops.toList.drop (i + 1) := by
   rw [List.drop_eq_getElem_cons (by simpa using hi)]; simp
  rw [hd] at ho;simp only [seqOps] at ho;obtain ⟨l, h1, h2⟩ := Out.bind_spec ho;rw [zkX] at h1;refine (zlj hC hR (Array.getElem?_eq_getElem hi) h1).mono fun s' hs' => ?_
  obtain ⟨o', h3, h4⟩ := h2 s' hs';exact ⟨o', h3, fun x hx => hsub x (h4 x hx)⟩
 ·rintro s1 ⟨o, ho, hsub⟩
  have : ops.toList.drop ops.size = [] := by simp
  rw [this] at ho;simp only [seqOps] at ho;cases ho;exact ⟨rfl, hsub _ (List.mem_singleton.2 rfl)⟩
theorem zm8 (hC : CtxOk P C) (hR : RecOk P R) {c : Code} {s : St} {outs : List (Ex × St)} (h : codeStep P C R rd nt c s = some outs) : CodeT P rd nt c s fun x s' => (x, s') ∈ outs := by
 unfold codeStep at h;split at h
 ·cases h; exact zhY (List.mem_singleton.2 rfl)
 ·cases h; exact zkJ (List.mem_singleton.2 rfl)
 ·cases h; exact zjQ (List.mem_singleton.2 rfl)
 ·cases h; exact zh0 (List.mem_singleton.2 rfl)
 ·obtain ⟨l, h1, h2⟩ := Out.bind_spec h;refine zjP (hR.code h1) (fun s' hs' => ?_) fun e s' hs' hne => ?_
  ·obtain ⟨o, h3, h4⟩ := h2 _ hs';exact (hR.code h3).mono fun x s2 hx => h4 _ hx
  ·obtain ⟨o, h3, h4⟩ := h2 _ hs';simp only at h3;cases h3; exact h4 _ (List.mem_singleton.2 rfl)
 ·split at h
  ·rename_i t hc; exact zh3 hc (hR.code h)
  ·cases h
 ·obtain ⟨l, h1, h2⟩ := Out.bind_spec h;refine zhg (hR.code h1) (fun s' hs' => ?_) fun e s' hs' hne => ?_
  ·obtain ⟨o, h3, h4⟩ := h2 _ hs';simp only [if_true] at h3;cases h3; exact h4 _ (List.mem_singleton.2 rfl)
  ·obtain ⟨o, h3, h4⟩ := h2 _ hs'
   cases e with
   | exit id' =>
    simp only at h3;rw [if_neg (fun e => hne (by rw [e]))] at h3
    cases h3; exact h4 _ (List.mem_singleton.2 rfl)
   | normal => cases h3; exact h4 _ (List.mem_singleton.2 rfl)
   | ret => cases h3; exact h4 _ (List.mem_singleton.2 rfl)
 ·exact zhZ (hR.loop h)
 ·split at h
  ·exact zkI (hR.code h)
  ·cases h
 ·obtain ⟨l, h1, h2⟩ := Out.bind_spec h;refine (zjO hC hR h1).mono fun x s' hx => ?_
  obtain ⟨rfl, hx⟩ := hx;obtain ⟨o, h3, h4⟩ := h2 _ hx;cases h3; exact h4 _ (List.mem_singleton.2 rfl)
 ·obtain ⟨l, h1, h2⟩ := Out.bind_spec h;refine (ziP hC hR h1).mono fun x s' hx => ?_
  obtain ⟨rfl, hx⟩ := hx;obtain ⟨o, h3, h4⟩ := h2 _ hx;cases h3; exact h4 _ (List.mem_singleton.2 rfl)
 ·split at h
  ·rename_i g a b hf;simp only at h;obtain ⟨l, h1, h2⟩ := Out.bind_spec h;refine zhf hf (hR.call h1) fun v h3 hv => ?_
   obtain ⟨o, h4, h5⟩ := h2 _ hv;simp only at h4;split at h4
   ·rename_i r hr;refine ⟨r, hr, ?_⟩;split at h4
    ·cases h4
    ·rename_i hp hnb;cases h4;refine ⟨fun e => hnb e, ?_⟩;rw [hp];simp only;refine ?_;have := h5 _ (List.mem_singleton.2 rfl);rw [hp] at this;exact this
    ·rename_i j hp hnb;refine ⟨fun e => hnb e, ?_⟩;rw [hp];simp only;rw [hp] at h4;exact (hR.code h4).mono fun x s' hx => h5 _ hx
   ·cases h4
  ·cases h
 ·cases h
theorem zmW (hR : RecOk P R) {b : Code} {s : St} {outs : List (Ex × St)} (h : loopStep R rd nt b s = some outs) : LoopT P rd nt b s fun x s' => (x, s') ∈ outs := by
 unfold loopStep at h;obtain ⟨l, h1, h2⟩ := Out.bind_spec h;refine zlm (hR.code h1) (fun s' hs' => ?_) fun e s' hs' hne => ?_
 ·obtain ⟨o, h3, h4⟩ := h2 _ hs';exact (hR.loop h3).mono fun x s2 hx => h4 _ hx
 ·obtain ⟨o, h3, h4⟩ := h2 _ hs';simp only at h3;cases h3; exact h4 _ (List.mem_singleton.2 rfl)
theorem znb (hC : CtxOk P C) (hR : RecOk P R) {f : FuncId} {args : List Value} {H : AHeap} {outs : List (Value × AHeap)} (h : callStep C R f args H = some outs) : CallT P f args H fun v H' => (v, H') ∈ outs := by
 unfold callStep at h;split at h
 ·rename_i fn hfn;split at h
  ·rename_i c hb;split at h
   ·rename_i hlen;obtain ⟨l, h1, h2⟩ := Out.bind_spec h;refine zlO hC hfn hb hlen (hR.code h1) fun x s hs => ?_
    obtain ⟨o, h3, h4⟩ := h2 _ hs;simp only at h3;split at h3
    ·cases h3
    ·rename_i hne;refine ⟨fun id e => hne id e, ?_⟩;split at h3
     ·rename_i h' ht;refine ⟨h', ?_⟩;split at h3
      ·rename_i v hv;cases h3;exact ⟨_, ht, hv, h4 _ (List.mem_singleton.2 rfl)⟩
      ·rename_i l hnl hl;cases h3;refine ⟨_, ht, hl, ?_⟩
       have : packA l = .tuple ⟨l⟩ := by
        unfold packA;split
        ·rename_i v; exact absurd rfl (hnl v)
        ·rfl
       have h5 := h4 _ (List.mem_singleton.2 rfl);show (packA l, h') ∈ outs;rw [this]; exact h5
      ·cases h3
     ·cases h3
   ·cases h
  ·cases h
 ·cases h
theorem zhy (hC : CtxOk P C) (hR : RecOk P R) : RecOk P (step P C R) :=
 ⟨fun h => zm8 hC hR ((codeF_eq ..).symm.trans h), fun h => zmW hR h, fun h => znb hC hR h⟩
end
end Go.Den
namespace Go.Den
noncomputable def ofOpts {α : Type} : List (Option α) → Nat → Tr α → Tr α
 | [], _, t => t
 | some a :: r, i, t => ofOpts r (i + 1) (t.set i a)
 | none :: r, i, t => ofOpts r (i + 1) t
theorem zgQ {α : Type} : ∀ (l : List (Option α)) (i : Nat) (t : Tr α) (m : Nat), (ofOpts l i t).get m = if i ≤ m then (match l[m - i]? with | some (some a) => some a | _ => t.get m) else t.get m
 | [], i, t, m => by simp [ofOpts]
 | o :: r, i, t, m => by
  have key := fun t' => zgQ r (i + 1) t' m
  by_cases h1 : i + 1 ≤ m
  ·have e : m - i = (m - (i + 1)) + 1 := by omega
   have ne : ¬ m = i := by omega
   rw [if_pos (by omega : i ≤ m), e, List.getElem?_cons_succ]
   cases o with
   | none => simp only [ofOpts]; rw [key, if_pos h1]
   | some x => simp only [ofOpts]; rw [key, if_pos h1, Tr.zaT, if_neg ne]
  ·by_cases h2 : m = i
   ·subst h2;rw [if_pos (Nat.le_refl m), Nat.sub_self]
    cases o with
    | none => simp only [ofOpts]; rw [key, if_neg h1]; simp
    | some x => simp only [ofOpts]; rw [key, if_neg h1, Tr.zaT, if_pos rfl]; simp
   ·rw [if_neg (by omega : ¬ i ≤ m)]
    cases o with
    | none => simp only [ofOpts]; rw [key, if_neg h1]
    | some x => simp only [ofOpts]; rw [key, if_neg h1, Tr.zaT, if_neg h2]
def tyOf (P : Program) (t : TypeId) : Option TI := match P.types.toList[t]? with
 | some i => match i.desc with
  | .named _ u => match P.types.toList[u]? with
   | some j => some { und := j.desc, size := i.size, bytes := i.bytes, zero := i.zero }
   | none => none
  | d => some { und := d, size := i.size, bytes := i.bytes, zero := i.zero }
 | none => none
theorem zkU {P : Program} {t : TypeId} {i : TypeInfo} (h : P.types.toList[t]? = some i) : P.info? t = some i := by
 have h' : P.types[t]? = some i := by simpa using h
 have hlt := (Array.getElem?_eq_some_iff.1 h').1;simp only [Tables.info?];rw [if_pos hlt]; exact h'
theorem tyOf_ti {P : Program} {t : TypeId} {i : TI} (h : tyOf P t = some i) : tiOf P t = some i ∧ t < P.types.size := by
 unfold tyOf at h;split at h
 ·rename_i k hk;have h1 := zkU hk;have hk' : P.types[t]? = some k := by simpa using hk
  refine ⟨?_, (Array.getElem?_eq_some_iff.1 hk').1⟩;unfold tiOf Program.underlying;rw [h1];obtain ⟨d, a1, a2, a3, a4⟩ := k
  cases d with
  | named u v =>
   simp only at h ⊢
   cases hj : P.types.toList[v]? with
   | none => rw [hj] at h; cases h
   | some j => rw [hj] at h; rw [zkU hj]; exact h
  | _ => exact h
 ·cases h
noncomputable def tyFast (tt : Tr TypeInfo) (i : TypeInfo) : Option TI := match i.desc with
 | .named _ u => match tt.get u with
  | some j => some { und := j.desc, size := i.size, bytes := i.bytes, zero := i.zero }
  | none => none
 | d => some { und := d, size := i.size, bytes := i.bytes, zero := i.zero }
noncomputable def tyTr (p : Program) : Tr TypeInfo := Tr.ofList p.types.toList
noncomputable def ctxOf (p : Program) : Ctx := { ty := ofOpts (p.types.toList.map (tyFast (tyTr p))) 0 .nil, fn := Tr.ofList p.funcs.toList }
theorem znJ {P : Program} {t : TypeId} : ((P.types.toList[t]?).bind (tyFast (tyTr P))) = tyOf P t := by
 unfold tyOf
 cases h : P.types.toList[t]? with
 | none => rfl
 | some i =>
  simp only [Option.bind_some, tyFast];cases i.desc <;> first | rfl | (simp only [tyTr, Tr.zcs])
theorem zjK {P : Program} {t : TypeId} : (ctxOf P).ty.get t = tyOf P t := by
 show (ofOpts _ 0 .nil).get t = _;rw [zgQ, if_pos (Nat.zero_le _), ← znJ];simp only [Nat.sub_zero, List.getElem?_map]
 cases h : P.types.toList[t]? with
 | none => simp [Tr.zbS]
 | some i =>
  simp only [Option.map_some, Option.bind_some];cases tyFast (tyTr P) i <;> simp [Tr.zbS]
theorem zbJ {P : Program} {t : TypeId} {i : TI} (h : tyOf P t = some i) : (ctxOf P).ty.get t = some i := by rw [zjK, h]
theorem ctxOk {p : Program} (hn : (p.funcs.all fun f => !(f.name == "runtime.NumGoroutine")) = true) (hm : p.follows .mixedOrders = true) : CtxOk p (ctxOf p) := by
 refine ⟨fun t i h => ?_, fun f x h => ?_, hm⟩
 ·rw [zjK] at h;exact (tyOf_ti h).1
 ·unfold ctxOf at h;simp only [Tr.zcs] at h;have h' : p.funcs[f]? = some x := by simpa using h
  refine ⟨h', ?_⟩;rw [Array.all_eq_true_iff_forall_mem] at hn;have := hn x (Array.mem_of_getElem? h');simpa using this
end Go.Den
