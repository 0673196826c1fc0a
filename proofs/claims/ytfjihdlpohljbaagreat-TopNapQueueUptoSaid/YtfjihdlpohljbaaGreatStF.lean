/- The symbolic layer: drawn regions in which blocks are turned, dropped and made, while loads apart from them remain. -/
import Derived.Test.YtfjihdlpohljbaaGreatSxM
noncomputable section
namespace Go.Den
section
variable {H : AHeap} {lo : Nat} {L : List (Option ABlk)} {ks : List Nat}
def maskK (ks : List Nat) (L : List (Option ABlk)) : List (Option ABlk) := ks.foldl (fun L k => L.set k none) L
theorem maskK_len : ∀ {ks : List Nat} {L : List (Option ABlk)}, (maskK ks L).length = L.length
  | [], _ => rfl
  | k :: ks, L => (maskK_len (ks := ks) (L := L.set k none)).trans List.length_set
theorem maskK_get : ∀ {ks : List Nat} {L : List (Option ABlk)} {n : Nat}, (maskK ks L)[n]? = if n ∈ ks then (if n < L.length then some none else none) else L[n]?
  | [], L, n => by simp [maskK]
  | k :: ks, L, n => by
    have ih := maskK_get (ks := ks) (L := L.set k none) (n := n)
    have e : maskK (k :: ks) L = maskK ks (L.set k none) := rfl
    rw [e, ih, List.length_set]
    by_cases h1 : n ∈ ks
    · rw [if_pos h1, if_pos (List.mem_cons_of_mem _ h1)]
    · rw [if_neg h1]
      by_cases h2 : n = k
      · subst h2
        rw [if_pos (List.mem_cons_self ..)]
        by_cases h3 : n < L.length
        · rw [if_pos h3, List.getElem?_set_self h3]
        · rw [if_neg h3, List.getElem?_eq_none (by rw [List.length_set]; omega)]
      · rw [if_neg (by simp [h1, h2]), List.getElem?_set_ne (fun e => h2 e.symm)]
theorem maskK_at {n : Nat} {x : ABlk} (h : L[n]? = some (some x)) (hn : ks.contains n = false) : (maskK ks L)[n]? = some (some x) := by
  rw [maskK_get, if_neg (fun hm => by rw [List.contains_iff_mem.2 hm] at hn; cases hn)]
  exact h
theorem nb_of {x : Nat} (h : x % 2 = 0 ∧ H.fresh ≤ x) : x = nb H (x / 2 - H.next) := by
  have := h.2
  simp only [AHeap.fresh] at this
  simp only [nb]; omega
theorem nb_half {n : Nat} : nb H n / 2 - H.next = n := by simp only [nb]; omega
theorem mask_ext (hc : Closed H) {x : Nat} : (ext H lo (maskK ks L)).get x = if (∃ k ∈ ks, x = nb H k) then none else (ext H lo L).get x := by
  rw [ext_get hc, ext_get hc]
  by_cases h : x % 2 = 0 ∧ H.fresh ≤ x
  · rw [if_pos h, if_pos h, maskK_get]
    by_cases hm : x / 2 - H.next ∈ ks
    · have hx : ∃ k ∈ ks, x = nb H k := ⟨_, hm, nb_of h⟩
      rw [if_pos hm, if_pos hx]
      by_cases hl : x / 2 - H.next < L.length
      · rw [if_pos hl]
      · rw [if_neg hl]
    · rw [if_neg hm, if_neg]
      rintro ⟨k, hk, rfl⟩
      rw [nb_half] at hm
      exact hm hk
  · rw [if_neg h, if_neg h, if_neg]
    rintro ⟨k, hk, rfl⟩
    exact h ⟨own_iff.1 (nb_own _), nb_ge _⟩
theorem mask_sub (hc : Closed H) {x : Nat} {z : ABlk} (h : (ext H lo (maskK ks L)).get x = some z) : (ext H lo L).get x = some z ∧ ∀ k ∈ ks, x ≠ nb H k := by
  rw [mask_ext hc] at h
  split at h
  · cases h
  · rename_i hn
    exact ⟨h, fun k hk e => hn ⟨k, hk, e⟩⟩
theorem gapp_get (hc : Closed H) {x : Nat} {y : ABlk} : (ext H lo (L ++ [some y])).get x = if x = nb H L.length then some y else (ext H lo L).get x := by
  rw [ext_get hc, ext_get hc]
  by_cases h : x % 2 = 0 ∧ H.fresh ≤ x
  · rw [if_pos h, if_pos h]
    by_cases e : x = nb H L.length
    · rw [if_pos e, e, nb_half, List.getElem?_concat_length]
    · rw [if_neg e]
      have hx := nb_of h
      have hne : x / 2 - H.next ≠ L.length := fun e2 => e (by rw [hx, e2])
      rcases Nat.lt_or_ge (x / 2 - H.next) L.length with h1 | h1
      · rw [List.getElem?_append_left h1]
      · rw [List.getElem?_eq_none (by simp; omega), List.getElem?_eq_none h1]
  · rw [if_neg h, if_neg h, if_neg]
    intro e
    exact h ⟨by rw [e]; exact own_iff.1 (nb_own _), by rw [e]; exact nb_ge _⟩
theorem gkill_get (hc : Closed H) {x k : Nat} : (ext H lo (L.set k none)).get x = if x = nb H k then none else (ext H lo L).get x := by
  have := mask_ext (lo := lo) (ks := [k]) (L := L) hc (x := x)
  have e : maskK [k] L = L.set k none := rfl
  rw [e] at this
  rw [this]
  simp
theorem gpush_get (hc : Closed H) {x k : Nat} {y : ABlk} : (ext H lo (L.set k none ++ [some y])).get x = if x = nb H L.length then some y else if x = nb H k then none else (ext H lo L).get x := by
  rw [gapp_get hc, List.length_set, gkill_get hc]
end
section
variable {P : Program} {rd : Option Nat} {nt : Nat} {ops : Array Oper} {ds : List Nat} {l : EL} {H : AHeap} {lo : Nat} {L : List (Option ABlk)} {ks : List Nat} {i : Nat} {tj lc : List Nat} {K : St → Prop} {r : List Oper}
structure EntG (all : List DOp) (H : AHeap) (ks tj lc : List Nat) (i : Nat) (e : HE) : Prop where
  mem : e.d ∈ all ∧ e.d.free = false
  lt : e.d.i < i
  has : ∀ b, e.t.has b = true → e.d.i ∈ tj
  off : e.d.i ∈ lc → ∀ k ∈ ks, e.pre.get (nb H k) = none
structure DInvG (all : List DOp) (dsx : DS) (l : EL) (H : AHeap) (lo : Nat) (L : List (Option ABlk)) (ks tj lc : List Nat) (i : Nat) : Prop where
  env : ∀ x, dsx.env.get x = lk l x
  heap : dsx.heap = ext H lo L
  cl : Closed H
  ent : ∀ e ∈ dsx.hist, EntG all H ks tj lc i e
  vis : ∀ bef x z, x % 2 = 0 → (∀ j ∈ tj, Nat.testBit bef j = true) → (ext H lo L).get x = some z → (viewA bef dsx.base.blks dsx.hist).get (x / 2) = some z
  hid : ∀ bef x z, x % 2 = 0 → (ext H lo (maskK ks L)).get x = some z → (viewA bef dsx.base.blks dsx.hist).get (x / 2) = some z
structure SeqG (P : Program) (rd : Option Nat) (nt : Nat) (ops : Array Oper) (r : List Oper) (i : Nat) (ds : List Nat) (l : EL) (H : AHeap) (lo : Nat) (L : List (Option ABlk)) (ks tj lc : List Nat) (K : St → Prop) : Prop where
  out : ∀ all, planN ops.toList 0 .nil = some all → statOk ops = true → (∀ j o, r[j]? = some o → ops[i + j]? = some o) → r.length + i = ops.size → ∀ dsx, DInvG all dsx l H lo L ks tj lc i → ∃ dsf ts l', DRun P rd nt ops all ds (all.drop i) dsx dsf ts ∧ (∀ x, dsf.env.get x = lk l' x) ∧ K ⟨ofA l', ds, dsf.heap⟩
theorem ct_drawG [PC P] {id : Nat} {ls : List Oper} {Qn : St → Prop} {Qe : Nat → St → Prop} {Qr : St → Prop} (ks : List Nat) (hc : Closed H) (hst : statOk ⟨ls⟩ = true) (h : SeqG P rd nt ⟨ls⟩ ls 0 ds l H lo L ks [] [] Qn) : CT P rd nt (.region id ⟨ls⟩ true) ⟨ofA l, ds, ext H lo L⟩ Qn Qe Qr := by
  cases hall : planN ls 0 .nil with
  | none => unfold statOk at hst; simp only at hst; rw [hall] at hst; cases hst
  | some all =>
    have hI : DInvG all ⟨ofA l, ext H lo L, ext H lo L, []⟩ l H lo L ks [] [] 0 :=
      ⟨ofA_get l, rfl, hc, fun e he => (by cases he), fun bef x z hx _ hz => by rw [AHeap.get_even _ hx] at hz; exact hz, fun bef x z hx hz => by
        have := (mask_sub hc hz).1
        rw [AHeap.get_even _ hx] at this; exact this⟩
    obtain ⟨dsf, ts, l', h1, h2, h3⟩ := h.out all hall hst (fun j o hj => by simpa using hj) (by simp) _ hI
    have := codeT_dRun PC.ok.mixed (planN_ok (ops := ⟨ls⟩) hall) (s := ⟨ofA l, ds, ext H lo L⟩) (id := id) (Q := fun x s' => x = .normal ∧ s' = ⟨dsf.env, ds, dsf.heap⟩) h1 ⟨rfl, rfl⟩
    exact ⟨codeT_at this (fun t v hv => by rw [h2, ← ofA_get]; exact hv) h3⟩
theorem sg_none {o : Oper} {v : Value} {hp : AHeap} {lc' : List Nat} (free : Bool) (hfree : isFree o.op = free) (hpf : hp.fresh = (ext H lo L).fresh)
    (hop : ∀ ad : List Nat, (∀ x ∈ ad, x ∉ reads ops o) → OpT P rd nt ops i ⟨ofA (fl ad l), ds, hp⟩ (fun s => s = ⟨ofA (upd o.dst v (fl ad l)), ds, hp⟩))
    (hpn : free = true → ∀ x, hp.get x = none)
    (hpv : free = false → ∀ x z, hp.get x = some z → (ext H lo L).get x = some z ∧ ((∀ j ∈ tj, Nat.testBit (befS ops i) j = true) ∨ ∀ k ∈ ks, x ≠ nb H k))
    (hlc : ∀ j ∈ lc', j ∈ lc ∨ (j = i ∧ ∀ k ∈ ks, hp.get (nb H k) = none)) (hnl : i ∉ lc)
    (hk : SeqG P rd nt ops r (i + 1) ds (upd o.dst v l) H lo L ks tj lc' K) : SeqG P rd nt ops (o :: r) i ds l H lo L ks tj lc K := by
  refine ⟨fun all hall hst hr hlen dsx hI => ?_⟩
  have ho : ops[i]? = some o := by simpa using hr 0 o rfl
  obtain ⟨d, hd, di, dO, df, db, _, dsep⟩ := plan_at hall hst ho
  rw [hfree] at df
  have hdi : i < all.length := (List.getElem?_eq_some_iff.1 hd).1
  have hdrop : all.drop i = d :: all.drop (i + 1) := by
    rw [List.drop_eq_getElem_cons hdi]
    congr 1
    have := List.getElem?_eq_getElem hdi
    rw [hd] at this; cases this; rfl
  have hop' := hop (adOf all d) (fun x hx => by
    obtain ⟨u, hu, ha, hx⟩ := mem_adOf.1 hx
    rw [← dO]; exact (dsep u hu ha x hx).2)
  rw [← di] at hop'
  have hcl := hI.cl
  let t : DT := ⟨⟨ofA (fl (adOf all d) l), ds, hp⟩, ⟨ofA (upd o.dst v (fl (adOf all d) l)), ds, hp⟩, .non⟩
  let ds' : DS := ⟨ofA (upd o.dst v l), dsx.heap, dsx.base, if d.free then dsx.hist else ⟨d, hp, .non⟩ :: dsx.hist⟩
  have hfr : hp.fresh = dsx.heap.fresh := by rw [hI.heap]; exact hpf
  have hno : ∀ x, t.t.has x = false := fun x => rfl
  have hstep : StepOk all ds dsx d ds' t := by
    refine ⟨?_, rfl, hfr, fun u hu ha x hx => (dsep u hu ha x hx).1, hfr.symm, Nat.le_of_eq hfr.symm, ?_, ?_, rfl, rfl, ?_, Nat.le_refl _, ?_, ?_, ?_, ?_, ?_, ?_, ?_, ?_⟩
    · intro x w hw
      have hw' : lk (fl (adOf all d) l) x = some w := by rw [← ofA_get]; exact hw
      rw [lk_fl] at hw'
      split at hw'
      · cases hw'
      · rename_i hc
        refine ⟨by rw [hI.env]; exact hw', fun u hu ha hx => hc ?_⟩
        rw [List.contains_eq_mem]
        simpa using mem_adOf.2 ⟨u, hu, ha, hx⟩
    · intro x
      show (ofA (upd o.dst v l)).get x = if d.o.dst = some x then (ofA (upd o.dst v (fl (adOf all d) l))).get x else dsx.env.get x
      rw [dO, hI.env, ofA_get, ofA_get, lk_upd, lk_upd]
      split <;> simp_all
    · intro x
      show dsx.heap.get x = if t.t.has x then hp.get x else dsx.heap.get x
      rw [hno x]; rfl
    · rfl
    · intro x hx; rw [hno x] at hx; cases hx
    · intro b hb hh; right; right; rfl
    · intro hf; rw [df] at hf; exact ⟨rfl, hpn hf⟩
    · intro h; cases h
    · intro k c src h; cases h
    · intro b y h; cases h
    · intro b k c src h; cases h
    · cases hf : free with
      | true => left; rw [df, hf]
      | false =>
        right; right; right
        intro x z hz
        obtain ⟨h1, h2⟩ := hpv hf x z hz
        rcases Nat.mod_two_eq_zero_or_one x with hx | hx
        · right
          refine ⟨hx, ?_⟩
          rcases h2 with h2 | h2
          · exact hI.vis _ _ _ hx (fun j hj => by rw [db]; exact h2 j hj) h1
          · refine hI.hid _ _ _ hx ?_
            rw [mask_ext hcl, if_neg (fun ⟨k, hk, e⟩ => h2 k hk e)]; exact h1
        · left
          refine ⟨hx, ?_⟩
          rw [hI.heap]; exact h1
  have hview : ∀ bef, viewA bef ds'.base.blks ds'.hist = viewA bef dsx.base.blks dsx.hist := fun bef => by
    simp only [ds']
    split
    · rfl
    · simp only [viewA]
  have hI' : DInvG all ds' (upd o.dst v l) H lo L ks tj lc' (i + 1) := by
    refine ⟨ofA_get _, hI.heap, hI.cl, fun e he => ?_, fun bef x z hx a b => by rw [hview]; exact hI.vis bef x z hx a b, fun bef x z hx b => by rw [hview]; exact hI.hid bef x z hx b⟩
    have old : ∀ e ∈ dsx.hist, EntG all H ks tj lc' (i + 1) e := fun e he => by
      obtain ⟨m1, m2, m3, m4⟩ := hI.ent e he
      refine ⟨m1, by omega, m3, fun hj => ?_⟩
      rcases hlc _ hj with h | ⟨h, _⟩
      · exact m4 h
      · omega
    simp only [ds'] at he
    split at he
    · exact old e he
    · rename_i hnf
      rcases List.mem_cons.1 he with rfl | he
      · refine ⟨⟨List.mem_of_getElem? hd, by simpa using hnf⟩, by show d.i < i + 1; omega, fun b hb => (by cases hb), fun hj => ?_⟩
        have hj : d.i ∈ lc' := hj
        rw [di] at hj
        show ∀ k ∈ ks, hp.get _ = none
        rcases hlc _ hj with h | ⟨_, h⟩
        · exact absurd h hnl
        · exact h
      · exact old e he
  obtain ⟨dsf, ts, l', h1, h2⟩ := hk.out all hall hst (fun j o' hj => by
    have := hr (j + 1) o' (by simpa using hj)
    have e : i + 1 + j = i + (j + 1) := by omega
    rw [e]; exact this) (by simp at hlen; omega) ds' hI'
  exact ⟨dsf, t :: ts, l', by rw [hdrop]; exact .cons hstep hop' h1, h2⟩
def turnOkG (ops : Array Oper) (i : Nat) (lc : List Nat) : Bool := match planN ops.toList 0 .nil with
  | none => false
  | some all => match all[i]? with
    | some d => all.all fun u => !d.apart u || u.free || Nat.ble i u.i || lc.contains u.i
    | none => false
structure TouchG (H : AHeap) (lo : Nat) (L : List (Option ABlk)) (ks : List Nat) (h' : AHeap) (L' : List (Option ABlk)) (tt : Touch) : Prop where
  hq : HQ h' (ext H lo L')
  mid : (ext H lo L).fresh ≤ (ext H lo L').fresh
  some_ : tt ≠ .all ∧ tt ≠ .non
  off : ∀ x, tt.has x = false → (ext H lo L').get x = (ext H lo L).get x
  in_ : ∀ x, tt.has x = true → ∃ k ∈ ks, x = nb H k
  rng : ∀ k c src, tt = .rng k c src → 2 * k = (ext H lo L).fresh ∧ 2 * (k + c) = h'.fresh ∧ src = h'.blks
  cell : ∀ b y, tt = .cell b y → b % 2 = 0 ∧ b < (ext H lo L).fresh ∧ h'.get b = some y ∧ (ext H lo L).get b ≠ none
  repl : ∀ b k c src, tt = .repl b k c src → b % 2 = 0 ∧ b < (ext H lo L).fresh ∧ 2 * k = (ext H lo L).fresh ∧ 2 * (k + c) = h'.fresh ∧ src = h'.blks ∧ h'.get b = none ∧ (ext H lo L).get b ≠ none
  view1 : ∀ bef (e : HE) base hist x, e.t = tt → x % 2 = 0 → Nat.testBit bef e.d.i = true → (viewA bef base (e :: hist)).get (x / 2) = if tt.has x then h'.get x else (viewA bef base hist).get (x / 2)
  view0 : ∀ bef (e : HE) base hist x, e.t = tt → x % 2 = 0 → tt.has x = false → (viewA bef base (e :: hist)).get (x / 2) = (viewA bef base hist).get (x / 2)
theorem sg_touch {o : Oper} {v : Value} {h' : AHeap} {L' : List (Option ABlk)} {tt : Touch} (hfree : isFree o.op = false) (hok : (∃ k c s, tt = .rng k c s) ∨ turnOkG ops i lc = true) (htj : tj.all (fun j => Nat.testBit (befS ops i) j) = true) (hnl : i ∉ lc)
    (hop : ∀ ad : List Nat, (∀ x ∈ ad, x ∉ reads ops o) → OpT P rd nt ops i ⟨ofA (fl ad l), ds, ext H lo L⟩ (fun s => s = ⟨ofA (upd o.dst v (fl ad l)), ds, h'⟩))
    (T : Closed H → TouchG H lo L ks h' L' tt)
    (hk : SeqG P rd nt ops r (i + 1) ds (upd o.dst v l) H lo L' ks (i :: tj) lc K) : SeqG P rd nt ops (o :: r) i ds l H lo L ks tj lc K := by
  refine ⟨fun all hall hst hr hlen dsx hI => ?_⟩
  have ho : ops[i]? = some o := by simpa using hr 0 o rfl
  obtain ⟨d, hd, di, dO, df, db, _, dsep⟩ := plan_at hall hst ho
  rw [hfree] at df
  have hdi : i < all.length := (List.getElem?_eq_some_iff.1 hd).1
  have hdrop : all.drop i = d :: all.drop (i + 1) := by
    rw [List.drop_eq_getElem_cons hdi]
    congr 1
    have := List.getElem?_eq_getElem hdi
    rw [hd] at this; cases this; rfl
  have hop' := hop (adOf all d) (fun x hx => by
    obtain ⟨u, hu, ha, hx⟩ := mem_adOf.1 hx
    rw [← dO]; exact (dsep u hu ha x hx).2)
  rw [← di] at hop'
  have hcl := hI.cl
  have hT := T hcl
  have q := hT.hq
  have hbits : ∀ j ∈ tj, Nat.testBit d.bef j = true := fun j hj => by rw [db]; exact List.all_eq_true.1 htj j hj
  have hlocal : turnOkG ops i lc = true → ∀ u ∈ all, d.apart u = true → u.free = false → u.i < i → u.i ∈ lc := fun hok u hu ha hf hlt => by
    unfold turnOkG at hok
    rw [hall] at hok
    simp only [hd, List.all_eq_true] at hok
    have := hok u hu
    have hb : Nat.ble i u.i = false := by
      cases e : Nat.ble i u.i
      · rfl
      · have := Nat.le_of_ble_eq_true e; omega
    rw [ha, hf, hb] at this
    simpa using this
  let t : DT := ⟨⟨ofA (fl (adOf all d) l), ds, ext H lo L⟩, ⟨ofA (upd o.dst v (fl (adOf all d) l)), ds, h'⟩, tt⟩
  let ds' : DS := ⟨ofA (upd o.dst v l), ext H lo L', dsx.base, ⟨d, t.pre.heap, t.t⟩ :: dsx.hist⟩
  have hfr : (ext H lo L).fresh = dsx.heap.fresh := by rw [hI.heap]
  have hno : turnOkG ops i lc = true → ∀ e ∈ dsx.hist, d.apart e.d = true → (∀ k ∈ ks, e.pre.get (nb H k) = none) ∧ ∀ b, e.t.has b = false := fun hok e he ha => by
    have hE := hI.ent e he
    refine ⟨hE.off (hlocal hok _ hE.mem.1 ha hE.mem.2 hE.lt), fun b => ?_⟩
    cases hh : e.t.has b with
    | false => rfl
    | true =>
      exfalso
      have h3 := hbits _ (hE.has _ hh)
      unfold DOp.apart at ha
      rw [h3] at ha
      simp at ha
  have hstep : StepOk all ds dsx d ds' t := by
    refine ⟨?_, rfl, hfr, fun u hu ha x hx => (dsep u hu ha x hx).1, ?_, ?_, ?_, ?_, ?_, ?_, ?_, ?_, ?_, ?_, ?_, ?_, ?_, ?_, ?_, ?_⟩
    · intro x w hw
      have hw' : lk (fl (adOf all d) l) x = some w := by rw [← ofA_get]; exact hw
      rw [lk_fl] at hw'
      split at hw'
      · cases hw'
      · rename_i hc
        refine ⟨by rw [hI.env]; exact hw', fun u hu ha hx => hc ?_⟩
        rw [List.contains_eq_mem]
        simpa using mem_adOf.2 ⟨u, hu, ha, hx⟩
    · exact q.fresh.symm
    · show dsx.heap.fresh ≤ h'.fresh
      rw [q.fresh, ← hfr]; exact hT.mid
    · intro x
      show (ofA (upd o.dst v l)).get x = if d.o.dst = some x then (ofA (upd o.dst v (fl (adOf all d) l))).get x else dsx.env.get x
      rw [dO, hI.env, ofA_get, ofA_get, lk_upd, lk_upd]
      split <;> simp_all
    · intro x
      show (ext H lo L').get x = if tt.has x then h'.get x else dsx.heap.get x
      cases hx : tt.has x with
      | true => rw [if_pos rfl, q.get]
      | false => rw [if_neg (by simp), hT.off x hx, hI.heap]
    · show H.base = dsx.heap.base
      rw [hI.heap]; rfl
    · cases tt <;> first | exact absurd rfl hT.some_.1 | rfl
    · cases tt <;> first | exact absurd rfl hT.some_.1 | (show _ = if d.free then _ else _; rw [df]; rfl)
    · show min lo H.fresh ≤ dsx.heap.low
      rw [hI.heap]; exact Nat.le_refl _
    · intro x hx hlt
      show min lo H.fresh ≤ h'.low
      rw [q.low]; exact Nat.le_refl _
    · intro b hb hh
      right; right
      show h'.get b = (ext H lo L).get b
      rw [q.get]; exact hT.off b hh
    · intro h; rw [df] at h; cases h
    · intro h; exact absurd h hT.some_.1
    · intro k c src h
      obtain ⟨a1, a2, a3⟩ := hT.rng k c src h
      exact ⟨by rw [← hfr]; exact a1, a2, a3⟩
    · intro b y h
      obtain ⟨a1, a2, a3, a4⟩ := hT.cell b y h
      have h : tt = .cell b y := h
      have hok : turnOkG ops i lc = true := hok.resolve_left fun ⟨_, _, _, h2⟩ => by rw [h] at h2; cases h2
      refine ⟨a1, by rw [← hfr]; exact a2, a3, a4, fun e he ha => ?_⟩
      obtain ⟨n1, n2⟩ := hno hok e he ha
      have hb : tt.has b = true := by
        rw [h]; simp [Touch.has]
      obtain ⟨k, hk, rfl⟩ := hT.in_ b hb
      exact ⟨n1 k hk, n2 _⟩
    · intro b k c src h
      obtain ⟨a1, a2, a3, a4, a5, a6, a7⟩ := hT.repl b k c src h
      have h : tt = .repl b k c src := h
      have hok : turnOkG ops i lc = true := hok.resolve_left fun ⟨_, _, _, h2⟩ => by rw [h] at h2; cases h2
      refine ⟨a1, by rw [← hfr]; exact a2, by rw [← hfr]; exact a3, a4, a5, a6, a7, fun e he ha => ?_⟩
      obtain ⟨n1, n2⟩ := hno hok e he ha
      have hb : tt.has b = true := by
        rw [h]; simp [Touch.has]
      obtain ⟨k, hk, rfl⟩ := hT.in_ b hb
      exact ⟨n1 k hk, n2 _⟩
    · right; right; right
      intro x z hz
      have hz' : (ext H lo L).get x = some z := hz
      rcases Nat.mod_two_eq_zero_or_one x with h1 | h1
      · right
        exact ⟨h1, hI.vis _ _ _ h1 hbits hz'⟩
      · left
        refine ⟨h1, ?_⟩
        rw [hI.heap]; exact hz'
  have hI' : DInvG all ds' (upd o.dst v l) H lo L' ks (i :: tj) lc (i + 1) := by
    refine ⟨ofA_get _, rfl, hcl, fun e he => ?_, fun bef x z hx a b => ?_, fun bef x z hx b => ?_⟩
    · rcases List.mem_cons.1 he with rfl | he
      · refine ⟨⟨List.mem_of_getElem? hd, df⟩, by show d.i < i + 1; omega, fun b hb => by show d.i ∈ i :: tj; rw [di]; exact List.mem_cons_self .., fun hj => ?_⟩
        have hj : d.i ∈ lc := hj
        rw [di] at hj
        exact absurd hj hnl
      · obtain ⟨m1, m2, m3, m4⟩ := hI.ent e he
        exact ⟨m1, by omega, fun b hb => List.mem_cons_of_mem _ (m3 b hb), m4⟩
    · have e1 := hT.view1 bef ⟨d, t.pre.heap, t.t⟩ dsx.base.blks dsx.hist x rfl hx (by show Nat.testBit bef d.i = true; rw [di]; exact a i (List.mem_cons_self ..))
      show (viewA bef dsx.base.blks (⟨d, t.pre.heap, t.t⟩ :: dsx.hist)).get (x / 2) = some z
      rw [e1]
      cases hh : tt.has x with
      | true => rw [if_pos rfl, q.get]; exact b
      | false =>
        rw [if_neg (by simp)]
        rw [hT.off x hh] at b
        exact hI.vis bef x z hx (fun j hj => a j (List.mem_cons_of_mem _ hj)) b
    · obtain ⟨b1, b2⟩ := mask_sub hcl b
      have hh : tt.has x = false := by
        cases hh : tt.has x with
        | false => rfl
        | true =>
          obtain ⟨k, hk, e⟩ := hT.in_ x hh
          exact absurd e (b2 k hk)
      have e1 := hT.view0 bef ⟨d, t.pre.heap, t.t⟩ dsx.base.blks dsx.hist x rfl hx hh
      show (viewA bef dsx.base.blks (⟨d, t.pre.heap, t.t⟩ :: dsx.hist)).get (x / 2) = some z
      rw [e1]
      rw [hT.off x hh] at b1
      refine hI.hid bef x z hx ?_
      rw [mask_ext hcl, if_neg (fun ⟨k, hk, e⟩ => b2 k hk e)]; exact b1
  obtain ⟨dsf, ts, l', h1, h2⟩ := hk.out all hall hst (fun j o' hj => by
    have := hr (j + 1) o' (by simpa using hj)
    have e : i + 1 + j = i + (j + 1) := by omega
    rw [e]; exact this) (by simp at hlen; omega) ds' hI'
  exact ⟨dsf, t :: ts, l', by rw [hdrop]; exact .cons hstep hop' h1, h2⟩
theorem sg_series {o : Oper} {v : Value} {h' : AHeap} {L' : List (Option ABlk)} (hfree : isFree o.op = false) (hser : seriesS ops i = true)
    (hop : ∀ ad : List Nat, (∀ x ∈ ad, x ∉ reads ops o) → OpT P rd nt ops i ⟨ofA (fl ad l), ds, ext H lo L⟩ (fun s => s = ⟨ofA (upd o.dst v (fl ad l)), ds, h'⟩))
    (q : HQ h' (ext H lo L')) (hfr : (ext H lo L).fresh ≤ (ext H lo L').fresh)
    (hk : SeqD P rd nt ops r (i + 1) ds (upd o.dst v l) H lo L' [] [] K) : SeqG P rd nt ops (o :: r) i ds l H lo L ks tj lc K := by
  refine ⟨fun all hall hst hr hlen dsx hI => ?_⟩
  have ho : ops[i]? = some o := by simpa using hr 0 o rfl
  obtain ⟨d, hd, di, dO, df, db, dser, dsep⟩ := plan_at hall hst ho
  rw [hfree] at df
  have hdi : i < all.length := (List.getElem?_eq_some_iff.1 hd).1
  have hdrop : all.drop i = d :: all.drop (i + 1) := by
    rw [List.drop_eq_getElem_cons hdi]
    congr 1
    have := List.getElem?_eq_getElem hdi
    rw [hd] at this; cases this; rfl
  have hop' := hop (adOf all d) (fun x hx => by
    obtain ⟨u, hu, ha, hx⟩ := mem_adOf.1 hx
    rw [← dO]; exact (dsep u hu ha x hx).2)
  rw [← di] at hop'
  have hc' := hI.cl
  let t : DT := ⟨⟨ofA (fl (adOf all d) l), ds, ext H lo L⟩, ⟨ofA (upd o.dst v (fl (adOf all d) l)), ds, h'⟩, .all⟩
  let ds' : DS := ⟨ofA (upd o.dst v l), ext H lo L', ext H lo L', []⟩
  have hstep : StepOk all ds dsx d ds' t := by
    refine ⟨?_, rfl, by rw [hI.heap], fun u hu ha x hx => (dsep u hu ha x hx).1, q.fresh.symm, by rw [hI.heap]; show _ ≤ h'.fresh; rw [q.fresh]; exact hfr, ?_, ?_, ?_, rfl, rfl, ?_, ?_, ?_, ?_, ?_, ?_, ?_, ?_, ?_⟩
    · intro x w hw
      have hw' : lk (fl (adOf all d) l) x = some w := by rw [← ofA_get]; exact hw
      rw [lk_fl] at hw'
      split at hw'
      · cases hw'
      · rename_i hc
        refine ⟨by rw [hI.env]; exact hw', fun u hu ha hx => hc ?_⟩
        rw [List.contains_eq_mem]
        simpa using mem_adOf.2 ⟨u, hu, ha, hx⟩
    · intro x
      show (ofA (upd o.dst v l)).get x = if d.o.dst = some x then (ofA (upd o.dst v (fl (adOf all d) l))).get x else dsx.env.get x
      rw [dO, hI.env, ofA_get, ofA_get, lk_upd, lk_upd]
      split <;> simp_all
    · intro x
      show (ext H lo L').get x = if own x then h'.get x else dsx.heap.get x
      rcases Nat.mod_two_eq_zero_or_one x with h | h
      · rw [if_pos (own_iff.2 h), q.get]
      · rw [if_neg (by rw [own_iff]; omega), AHeap.get_odd _ h, hI.heap, AHeap.get_odd _ h]
        rfl
    · rw [hI.heap]; rfl
    · rw [hI.heap]; exact Nat.le_refl _
    · intro x hx hlt
      show min lo H.fresh ≤ h'.low
      rw [q.low]; exact Nat.le_refl _
    · intro b hb2 hh
      have : own b = false := hh
      rw [own_iff.2 hb2] at this; cases this
    · intro h; rw [df] at h; cases h
    · intro _; exact ⟨fun u hu ha => dser hser u hu ha, fun x => by rw [hI.heap]⟩
    · intro k c src h; cases h
    · intro b y h; cases h
    · intro b k c src h; cases h
    · right; left; exact ⟨fun u hu ha => dser hser u hu ha, fun x => by rw [hI.heap]⟩
  have hI' : DInv ops all ds' (upd o.dst v l) H lo L' [] [] := by
    refine ⟨ofA_get _, by simp [ds'], rfl, hc', fun e he => (by cases he), fun bef M hM m z hz => ?_⟩
    have : M = [] := List.eq_nil_of_length_eq_zero hM.len
    subst this
    simp only [List.append_nil] at hz
    exact hz
  obtain ⟨dsf, ts, l', h1, h2⟩ := hk.out.out all hall hst (fun j o' hj => by
    have := hr (j + 1) o' (by simpa using hj)
    have e : i + 1 + j = i + (j + 1) := by omega
    rw [e]; exact this) (by simp at hlen; omega) ds' hI'
  exact ⟨dsf, t :: ts, l', by rw [hdrop]; exact .cons hstep hop' h1, h2⟩
theorem sg_ho {o : Oper} {r : List Oper} (h : ops[i]? = some o → SeqG P rd nt ops (o :: r) i ds l H lo L ks tj lc K) : SeqG P rd nt ops (o :: r) i ds l H lo L ks tj lc K :=
  ⟨fun all a1 a2 a3 a4 dsx hI => (h (by simpa using a3 0 o rfl)).out all a1 a2 a3 a4 dsx hI⟩
variable {ty : TypeId} {pos : String} {af : Array Edge}
theorem sg_free [PC P] {d : Nat} {op : Op} {v : Value} (hfree : isFree op = true) (hnl : lc.contains i = false) (hop : ∀ h, Does P l op h v h) (hd : Nat.blt d nt = true)
    (hk : SeqG P rd nt ops r (i + 1) ds ((d, v) :: l) H lo L ks tj lc K) : SeqG P rd nt ops (⟨some d, op, ty, pos, af, none⟩ :: r) i ds l H lo L ks tj lc K :=
  sg_ho fun ho => sg_none (hp := ⟨.nil, fun _ => none, (ext H lo L).next, 0⟩) (lc' := lc) true hfree rfl (fun _ ha => opT_of ho rfl (hop _) hd ha) (fun _ x => by
    rcases Nat.mod_two_eq_zero_or_one x with h | h
    · rw [AHeap.get_even _ h]; exact Tr.get_nil _
    · rw [AHeap.get_odd _ h]) (fun h => (by cases h)) (fun j hj => .inl hj) (fun hm => by rw [List.contains_iff_mem.2 hm] at hnl; cases hnl) hk
theorem sg_off [PC P] {Lx : List (Option ABlk)} {d : Nat} {op : Op} {v : Value} (hc : Closed H) (hfree : isFree op = false) (hLx : maskK ks L = Lx) (hnl : lc.contains i = false) (hop : Does P l op (ext H lo Lx) v (ext H lo Lx)) (hd : Nat.blt d nt = true)
    (hk : SeqG P rd nt ops r (i + 1) ds ((d, v) :: l) H lo L ks tj (i :: lc) K) : SeqG P rd nt ops (⟨some d, op, ty, pos, af, none⟩ :: r) i ds l H lo L ks tj lc K := by
  subst hLx
  refine sg_ho fun ho => sg_none (hp := ext H lo (maskK ks L)) (lc' := i :: lc) false hfree (by rw [ext_fresh, ext_fresh, maskK_len]) (fun _ ha => opT_of ho rfl hop hd ha) (fun h => (by cases h)) (fun _ x z hz => ?_) (fun j hj => ?_) (fun hm => by rw [List.contains_iff_mem.2 hm] at hnl; cases hnl) hk
  · obtain ⟨h1, h2⟩ := mask_sub hc hz
    exact ⟨h1, .inr h2⟩
  · rcases List.mem_cons.1 hj with rfl | hj
    · exact .inr ⟨rfl, fun k hk => by rw [mask_ext hc, if_pos ⟨k, hk, rfl⟩]⟩
    · exact .inl hj
theorem sg_look [PC P] {d : Nat} {op : Op} {v : Value} (hfree : isFree op = false) (htj : tj.all (fun j => Nat.testBit (befS ops i) j) = true) (hnl : lc.contains i = false) (hop : Does P l op (ext H lo L) v (ext H lo L)) (hd : Nat.blt d nt = true)
    (hk : SeqG P rd nt ops r (i + 1) ds ((d, v) :: l) H lo L ks tj lc K) : SeqG P rd nt ops (⟨some d, op, ty, pos, af, none⟩ :: r) i ds l H lo L ks tj lc K :=
  sg_ho fun ho => sg_none (hp := ext H lo L) (lc' := lc) false hfree rfl (fun _ ha => opT_of ho rfl hop hd ha) (fun h => (by cases h)) (fun _ x z hz => ⟨hz, .inl (fun j hj => List.all_eq_true.1 htj j hj)⟩) (fun j hj => .inl hj) (fun hm => by rw [List.contains_iff_mem.2 hm] at hnl; cases hnl) hk
theorem touch_cell {k : Nat} {x0 y : ABlk} {h' : AHeap} (hks : ks.contains k = true) (hLk : L[k]? = some (some x0)) (q : HQ h' (ext H lo (L.set k (some y)))) (hc : Closed H) : TouchG H lo L ks h' (L.set k (some y)) (.cell (nb H k) y) := by
  have hlt : k < L.length := (List.getElem?_eq_some_iff.1 hLk).1
  have has : ∀ x, (Touch.cell (nb H k) y).has x = true ↔ x = nb H k := fun x => by
    show Nat.beq x (nb H k) = true ↔ _
    rw [Nat.beq_eq]
  have hne : ∀ x, (Touch.cell (nb H k) y).has x = false → x ≠ nb H k := fun x hx e => by rw [(has x).2 e] at hx; cases hx
  have hgy : h'.get (nb H k) = some y := by rw [q.get, set_get hc hlt, if_pos rfl]
  have hv : ∀ x, x % 2 = 0 → x ≠ nb H k → x / 2 ≠ nb H k / 2 := fun x hx hn e => hn (by simp only [nb] at e ⊢; omega)
  refine ⟨q, by rw [ext_fresh, ext_fresh, List.length_set]; exact Nat.le_refl _, ⟨by simp, by simp⟩, fun x hx => (by rw [set_get hc hlt, if_neg (hne x hx)]), fun x hx => ⟨k, List.contains_iff_mem.1 hks, (has x).1 hx⟩, fun _ _ _ h => (by cases h), fun b z h => ?_, fun _ _ _ _ h => (by cases h), fun bef e base hist x he hx hb => ?_, fun bef e base hist x he hx hh => ?_⟩
  · cases h
    refine ⟨own_iff.1 (nb_own _), ?_, hgy, by rw [ext_get_new hLk]; simp⟩
    rw [ext_fresh]; simp only [nb]; omega
  · simp only [viewA, he]
    rw [if_pos hb, Tr.get_set]
    cases hh : (Touch.cell (nb H k) y).has x with
    | true => rw [if_pos rfl, (has x).1 hh, if_pos rfl, hgy]
    | false => rw [if_neg (hv x hx (hne x hh))]; exact (if_neg (by simp)).symm
  · simp only [viewA, he]
    split
    · rw [Tr.get_set, if_neg (hv x hx (hne x hh))]
    · rw [Tr.get_del, if_neg (hv x hx (hne x hh))]
theorem touch_new {y : ABlk} {h' : AHeap} (hks : ks.contains L.length = true) (q : HQ h' (ext H lo (L ++ [some y]))) (hc : Closed H) : TouchG H lo L ks h' (L ++ [some y]) (.rng (H.next + L.length) 1 h'.blks) := by
  have has : ∀ x, (Touch.rng (H.next + L.length) 1 h'.blks).has x = true ↔ x = nb H L.length := fun x => by
    show (own x && Nat.ble (2 * (H.next + L.length)) x && Nat.blt x (2 * (H.next + L.length + 1))) = true ↔ _
    rw [Bool.and_eq_true, Bool.and_eq_true, own_iff, Nat.ble_eq, Nat.blt_eq]
    simp only [nb]; omega
  have hne : ∀ x, (Touch.rng (H.next + L.length) 1 h'.blks).has x = false → x ≠ nb H L.length := fun x hx e => by rw [(has x).2 e] at hx; cases hx
  have hv : ∀ x, x % 2 = 0 → x ≠ nb H L.length → ¬ (H.next + L.length ≤ x / 2 ∧ x / 2 < H.next + L.length + 1) := fun x hx hn e => hn (by simp only [nb]; omega)
  refine ⟨q, by rw [ext_fresh, ext_fresh]; simp only [nb, List.length_append]; omega, ⟨by simp, by simp⟩, fun x hx => (by rw [gapp_get hc, if_neg (hne x hx)]), fun x hx => ⟨_, List.contains_iff_mem.1 hks, (has x).1 hx⟩, fun k c src h => ?_, fun _ _ h => (by cases h), fun _ _ _ _ h => (by cases h), fun bef e base hist x he hx hb => ?_, fun bef e base hist x he hx hh => ?_⟩
  · cases h
    refine ⟨by rw [ext_fresh]; rfl, ?_, rfl⟩
    rw [q.fresh, ext_fresh]; simp only [nb, List.length_append, List.length_singleton]; omega
  · simp only [viewA, he]
    rw [if_pos hb, copyR_get]
    cases hh : (Touch.rng (H.next + L.length) 1 h'.blks).has x with
    | true =>
      have e := (has x).1 hh
      rw [if_pos rfl, if_pos (by rw [e]; simp only [nb]; omega), AHeap.get_even _ hx]
    | false => rw [if_neg (hv x hx (hne x hh))]; exact (if_neg (by simp)).symm
  · simp only [viewA, he]
    split
    · rw [copyR_get, if_neg (hv x hx (hne x hh))]
    · rfl
theorem touch_repl {k : Nat} {x0 y : ABlk} {h' : AHeap} (hks : ks.contains k = true) (hks2 : ks.contains L.length = true) (hLk : L[k]? = some (some x0)) (q : HQ h' (ext H lo (L.set k none ++ [some y]))) (hc : Closed H) : TouchG H lo L ks h' (L.set k none ++ [some y]) (.repl (nb H k) (H.next + L.length) 1 h'.blks) := by
  have hlt : k < L.length := (List.getElem?_eq_some_iff.1 hLk).1
  have has : ∀ x, (Touch.repl (nb H k) (H.next + L.length) 1 h'.blks).has x = true ↔ x = nb H k ∨ x = nb H L.length := fun x => by
    show (Nat.beq x (nb H k) || (own x && Nat.ble (2 * (H.next + L.length)) x && Nat.blt x (2 * (H.next + L.length + 1)))) = true ↔ _
    rw [Bool.or_eq_true, Bool.and_eq_true, Bool.and_eq_true, own_iff, Nat.ble_eq, Nat.blt_eq, Nat.beq_eq]
    simp only [nb]; omega
  have hne : ∀ x, (Touch.repl (nb H k) (H.next + L.length) 1 h'.blks).has x = false → x ≠ nb H k ∧ x ≠ nb H L.length := fun x hx => ⟨fun e => (by rw [(has x).2 (.inl e)] at hx; cases hx), fun e => (by rw [(has x).2 (.inr e)] at hx; cases hx)⟩
  have hkn : nb H k ≠ nb H L.length := fun e => by simp only [nb] at e; omega
  have hgb : h'.get (nb H k) = none := by rw [q.get, gpush_get hc, if_neg hkn, if_pos rfl]
  have hv : ∀ x, x % 2 = 0 → x ≠ nb H L.length → ¬ (H.next + L.length ≤ x / 2 ∧ x / 2 < H.next + L.length + 1) := fun x hx hn e => hn (by simp only [nb]; omega)
  have hv2 : ∀ x, x % 2 = 0 → x ≠ nb H k → x / 2 ≠ nb H k / 2 := fun x hx hn e => hn (by simp only [nb] at e ⊢; omega)
  refine ⟨q, by rw [ext_fresh, ext_fresh]; simp only [nb, List.length_append, List.length_set]; omega, ⟨by simp, by simp⟩, fun x hx => (by rw [gpush_get hc, if_neg (hne x hx).2, if_neg (hne x hx).1]), fun x hx => ?_, fun _ _ _ h => (by cases h), fun _ _ h => (by cases h), fun b k2 c src h => ?_, fun bef e base hist x he hx hb => ?_, fun bef e base hist x he hx hh => ?_⟩
  · rcases (has x).1 hx with h | h
    · exact ⟨_, List.contains_iff_mem.1 hks, h⟩
    · exact ⟨_, List.contains_iff_mem.1 hks2, h⟩
  · cases h
    refine ⟨own_iff.1 (nb_own _), ?_, by rw [ext_fresh]; rfl, ?_, rfl, hgb, by rw [ext_get_new hLk]; simp⟩
    · rw [ext_fresh]; simp only [nb]; omega
    · rw [q.fresh, ext_fresh]; simp only [nb, List.length_append, List.length_set, List.length_singleton]; omega
  · simp only [viewA, he]
    rw [if_pos hb, copyR_get]
    cases hh : (Touch.repl (nb H k) (H.next + L.length) 1 h'.blks).has x with
    | true =>
      rw [if_pos rfl]
      rcases (has x).1 hh with e | e
      · rw [if_neg (by rw [e]; simp only [nb]; omega), e, hgb, Tr.get_del, if_pos rfl]
      · rw [if_pos (by rw [e]; simp only [nb]; omega), AHeap.get_even _ hx]
    | false => rw [if_neg (hv x hx (hne x hh).2), Tr.get_del, if_neg (hv2 x hx (hne x hh).1)]; exact (if_neg (by simp)).symm
  · simp only [viewA, he]
    split
    · rw [copyR_get, if_neg (hv x hx (hne x hh).2), Tr.get_del, if_neg (hv2 x hx (hne x hh).1)]
    · rw [Tr.get_del, if_neg (hv2 x hx (hne x hh).1)]
theorem sg_turn0 [PC P] {k : Nat} {op : Op} {v : Value} {x0 y : ABlk} (hc : Closed H) (hfree : isFree op = false) (hok : turnOkG ops i lc = true) (htj : tj.all (fun j => Nat.testBit (befS ops i) j) = true) (hnl : lc.contains i = false) (hks : ks.contains k = true) (hLk : L[k]? = some (some x0)) (hop : Does P l op (ext H lo L) v ((ext H lo L).put (nb H k) y))
    (hk : SeqG P rd nt ops r (i + 1) ds l H lo (L.set k (some y)) ks (i :: tj) lc K) : SeqG P rd nt ops (⟨none, op, ty, pos, af, none⟩ :: r) i ds l H lo L ks tj lc K :=
  sg_ho fun ho => sg_touch (o := ⟨none, op, ty, pos, af, none⟩) (v := v) hfree (.inr hok) htj (fun hm => by rw [List.contains_iff_mem.2 hm] at hnl; cases hnl) (fun _ ha => put0 ho rfl hop ha) (touch_cell hks hLk (ext_put hc (List.getElem?_eq_some_iff.1 hLk).1 y)) hk
theorem sg_newS [PC P] {d n c : Nat} {op : Op} {x : ABlk} (hc : Closed H) (hfree : isFree op = false) (htj : tj.all (fun j => Nat.testBit (befS ops i) j) = true) (hnl : lc.contains i = false) (hks : ks.contains L.length = true) (hop : Does P l op (ext H lo L) (.slice (some ⟨(ext H lo L).fresh, 0, none⟩) n c) ((ext H lo L).add x)) (hd : Nat.blt d nt = true)
    (hk : SeqG P rd nt ops r (i + 1) ds ((d, .slice (some ⟨nb H L.length, 0, none⟩) n c) :: l) H lo (L ++ [some x]) ks (i :: tj) lc K) : SeqG P rd nt ops (⟨some d, op, ty, pos, af, none⟩ :: r) i ds l H lo L ks tj lc K := by
  rw [ext_fresh] at hop
  exact sg_ho fun ho => sg_touch hfree (.inl ⟨_, _, _, rfl⟩) htj (fun hm => by rw [List.contains_iff_mem.2 hm] at hnl; cases hnl) (fun _ ha => opT_of ho rfl hop hd ha) (touch_new hks (by rw [ext_add]; exact .refl _)) hk
theorem sg_push [PC P] {d n c k : Nat} {op : Op} {x0 y : ABlk} (hc : Closed H) (hfree : isFree op = false) (hok : turnOkG ops i lc = true) (htj : tj.all (fun j => Nat.testBit (befS ops i) j) = true) (hnl : lc.contains i = false) (hks : ks.contains k = true) (hks2 : ks.contains L.length = true) (hLk : L[k]? = some (some x0)) (hop : Does P l op (ext H lo L) (.slice (some ⟨(ext H lo L).fresh, 0, none⟩) n c) (((ext H lo L).kill (nb H k)).add y)) (hd : Nat.blt d nt = true)
    (hk : SeqG P rd nt ops r (i + 1) ds ((d, .slice (some ⟨nb H L.length, 0, none⟩) n c) :: l) H lo (L.set k none ++ [some y]) ks (i :: tj) lc K) : SeqG P rd nt ops (⟨some d, op, ty, pos, af, none⟩ :: r) i ds l H lo L ks tj lc K := by
  rw [ext_fresh] at hop
  exact sg_ho fun ho => sg_touch hfree (.inr hok) htj (fun hm => by rw [List.contains_iff_mem.2 hm] at hnl; cases hnl) (fun _ ha => opT_of ho rfl hop hd ha) (touch_repl hks hks2 hLk (ext_push hc (List.getElem?_eq_some_iff.1 hLk).1 y)) hk
theorem sg_ser0 [PC P] {k' : Nat} {op : Op} {v : Value} {y : ABlk} (hc : Closed H) (hfree : isFree op = false) (hser : seriesS ops i = true) (hlt : k' < L.length) (hop : Does P l op (ext H lo L) v ((ext H lo L).put (nb H k') y))
    (hk : SeqD P rd nt ops r (i + 1) ds l H lo (L.set k' (some y)) [] [] K) : SeqG P rd nt ops (⟨none, op, ty, pos, af, none⟩ :: r) i ds l H lo L ks tj lc K :=
  sg_ho fun ho => sg_series (o := ⟨none, op, ty, pos, af, none⟩) (v := v) hfree hser (fun _ ha => put0 ho rfl hop ha) (ext_put hc hlt y) (by rw [ext_fresh, ext_fresh, List.length_set]; exact Nat.le_refl _) hk
end
end Go.Den
