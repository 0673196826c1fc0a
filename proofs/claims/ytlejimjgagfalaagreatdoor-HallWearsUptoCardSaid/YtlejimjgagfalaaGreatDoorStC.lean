import Derived.Test.YtlejimjgagfalaaGreatDoorStA
noncomputable section
namespace Go.Den
section
variable {P : Program} {rd : Option Nat} {nt : Nat} {ops : Array Oper} {ds : List Nat} {l : EL} {H : AHeap} {lo : Nat} {L : List (Option ABlk)} {k i : Nat} {tj lc : List Nat} {K : St → Prop} {r : List Oper}
def turnOk (ops : Array Oper) (i : Nat) (lc : List Nat) : Bool := match planN ops.toList 0 .nil with
 | none => false
 | some all => match all[i]? with
  | some d => all.all fun u => !d.apart u || u.free || lc.contains u.i
  | none => false
structure EntF (all : List DOp) (H : AHeap) (k : Nat) (tj lc : List Nat) (i : Nat) (e : HE) : Prop where
 mem : e.d ∈ all ∧ e.d.free = false
 lt : e.d.i < i
 has : ∀ b, e.t.has b = true → b = nb H k ∧ e.d.i ∈ tj
 off : e.d.i ∈ lc → e.pre.get (nb H k) = none
structure DInvF (all : List DOp) (dsx : DS) (l : EL) (H : AHeap) (lo : Nat) (L : List (Option ABlk)) (k : Nat) (tj lc : List Nat) (i : Nat) : Prop where
 env : ∀ x, dsx.env.get x = lk l x
 heap : dsx.heap = ext H lo L
 cl : Closed H
 kl : k < L.length
 ent : ∀ e ∈ dsx.hist, EntF all H k tj lc i e
 vis : ∀ bef m z, (∀ j ∈ tj, Nat.testBit bef j = true) → (ext H lo L).blks.get m = some z → (viewA bef dsx.base.blks dsx.hist).get m = some z
 hid : ∀ bef m z, (ext H lo (L.set k none)).blks.get m = some z → (viewA bef dsx.base.blks dsx.hist).get m = some z
structure SeqF (P : Program) (rd : Option Nat) (nt : Nat) (ops : Array Oper) (r : List Oper) (i : Nat) (ds : List Nat) (l : EL) (H : AHeap) (lo : Nat) (L : List (Option ABlk)) (k : Nat) (tj lc : List Nat) (K : St → Prop) : Prop where
 out : ∀ all, planN ops.toList 0 .nil = some all → statOk ops = true → (∀ j o, r[j]? = some o → ops[i + j]? = some o) → r.length + i = ops.size → ∀ dsx, DInvF all dsx l H lo L k tj lc i → ∃ dsf ts l', DRun P rd nt ops all ds (all.drop i) dsx dsf ts ∧ (∀ x, dsf.env.get x = lk l' x) ∧ K ⟨ofA l', ds, dsf.heap⟩
theorem znW {m : Nat} {z : ABlk} (hc : Closed H) (h : (ext H lo (L.set k none)).blks.get m = some z) : (ext H lo L).blks.get m = some z ∧ m ≠ nb H k / 2 := by
 simp only [ext, zbo] at h ⊢;by_cases hge : H.next ≤ m
 ·rw [if_pos hge] at h ⊢;by_cases hk : m - H.next = k
  ·exfalso
   have hn : (L.set k none)[m - H.next]? = none ∨ (L.set k none)[m - H.next]? = some none := by
    rw [hk];by_cases hl : k < L.length
    ·right; exact List.getElem?_set_self hl
    ·left; exact List.getElem?_eq_none (by rw [List.length_set]; omega)
   rcases hn with hn | hn <;> rw [hn] at h <;> simp only at h <;> rw [zfC hc hge] at h <;> cases h
  ·rw [List.getElem?_set_ne (fun e => hk e.symm)] at h;exact ⟨h, by simp only [nb]; omega⟩
 ·rw [if_neg hge] at h ⊢;exact ⟨h, by simp only [nb]; omega⟩
theorem znX (hc : Closed H) : (ext H lo (L.set k none)).get (nb H k) = none := by
 rw [zbq hc, if_pos ⟨zao.1 (zat _), zbf _⟩];have half : nb H k / 2 - H.next = k := by simp only [nb]; omega
 rw [half];by_cases hl : k < L.length
 ·rw [List.getElem?_set_self hl]
 ·rw [List.getElem?_eq_none (by rw [List.length_set]; omega)]
theorem zgx {x : Nat} {y : ABlk} (hc : Closed H) (hk : k < L.length) : (ext H lo (L.set k (some y))).get x = if x = nb H k then some y else (ext H lo L).get x := by
 rw [zbq hc, zbq hc];by_cases h : x % 2 = 0 ∧ H.fresh ≤ x
 ·rw [if_pos h, if_pos h]
  have hx2 : x = nb H (x / 2 - H.next) := by
   have := h.2;simp only [AHeap.fresh] at this;simp only [nb]; omega
  by_cases e : x = nb H k
  ·have e2 : x / 2 - H.next = k := by rw [e]; simp only [nb]; omega
   rw [if_pos e, e2, List.getElem?_set_self hk]
  ·rw [if_neg e, List.getElem?_set_ne (fun h2 => e (by rw [hx2, ← h2]))]
 ·rw [if_neg h, if_neg h, if_neg];intro e;exact h ⟨by rw [e]; exact zao.1 (zat _), by rw [e]; exact zbf _⟩
theorem zqV [PC P] {id : Nat} {ls : List Oper} {Qn : St → Prop} {Qe : Nat → St → Prop} {Qr : St → Prop} (hc : Closed H) (hk : k < L.length) (hst : statOk ⟨ls⟩ = true) (h : SeqF P rd nt ⟨ls⟩ ls 0 ds l H lo L k [] [] Qn) : CT P rd nt (.region id ⟨ls⟩ true) ⟨ofA l, ds, ext H lo L⟩ Qn Qe Qr := by
 cases hall : planN ls 0 .nil with
 | none => unfold statOk at hst; simp only at hst; rw [hall] at hst; cases hst
 | some all =>
  have hI : DInvF all ⟨ofA l, ext H lo L, ext H lo L, []⟩ l H lo L k [] [] 0 :=
   ⟨zaG l, rfl, hc, hk, fun e he => (by cases he), fun bef m z _ hz => hz, fun bef m z hz => (znW hc hz).1⟩
  obtain ⟨dsf, ts, l', h1, h2, h3⟩ := h.out all hall hst (fun j o hj => by simpa using hj) (by simp) _ hI;have := zh2 PC.ok.mixed (zgc (ops := ⟨ls⟩) hall) (s := ⟨ofA l, ds, ext H lo L⟩) (id := id) (Q := fun x s' => x = .normal ∧ s' = ⟨dsf.env, ds, dsf.heap⟩) h1 ⟨rfl, rfl⟩;exact ⟨zlM this (fun t v hv => by rw [h2, ← zaG]; exact hv) h3⟩
theorem sf_none {o : Oper} {v : Value} {hp : AHeap} {lc' : List Nat} (free : Bool) (hfree : isFree o.op = free) (hpf : hp.fresh = (ext H lo L).fresh)
  (hop : ∀ ad : List Nat, (∀ x ∈ ad, x ∉ reads ops o) → OpT P rd nt ops i ⟨ofA (fl ad l), ds, hp⟩ (fun s => s = ⟨ofA (upd o.dst v (fl ad l)), ds, hp⟩))
  (hpn : free = true → ∀ x, hp.get x = none)
  (hpv : free = false → ∀ x z, hp.get x = some z → (ext H lo L).get x = some z ∧ (tj = [] ∨ x ≠ nb H k))
  (hlc : ∀ j ∈ lc', j ∈ lc ∨ (j = i ∧ hp.get (nb H k) = none)) (hnl : i ∉ lc)
  (hk : SeqF P rd nt ops r (i + 1) ds (upd o.dst v l) H lo L k tj lc' K) : SeqF P rd nt ops (o :: r) i ds l H lo L k tj lc K := by
 refine ⟨fun all hall hst hr hlen dsx hI => ?_⟩;have ho : ops[i]? = some o := by simpa using hr 0 o rfl
 obtain ⟨d, hd, di, dO, df, db, _, dsep⟩ := zfl hall hst ho;rw [hfree] at df;have hdi : i < all.length := (List.getElem?_eq_some_iff.1 hd).1
 have hdrop : all.drop i = d :: all.drop (i + 1) := by
  rw [List.drop_eq_getElem_cons hdi]
  congr 1
  have := List.getElem?_eq_getElem hdi;rw [hd] at this; cases this; rfl
 have hop' := hop (adOf all d) (fun x hx => by
  obtain ⟨u, hu, ha, hx⟩ := zbH.1 hx;rw [← dO]; exact (dsep u hu ha x hx).2)
 rw [← di] at hop'
 let t : DT := ⟨⟨ofA (fl (adOf all d) l), ds, hp⟩, ⟨ofA (upd o.dst v (fl (adOf all d) l)), ds, hp⟩, .non⟩
 let ds' : DS := ⟨ofA (upd o.dst v l), dsx.heap, dsx.base, if d.free then dsx.hist else ⟨d, hp, .non⟩ :: dsx.hist⟩
 have hfr : hp.fresh = dsx.heap.fresh := by rw [hI.heap]; exact hpf
 have hno : ∀ x, t.t.has x = false := fun x => rfl
 have hstep : StepOk all ds dsx d ds' t := by
  refine ⟨?_, rfl, hfr, fun u hu ha x hx => (dsep u hu ha x hx).1, hfr.symm, Nat.le_of_eq hfr.symm, ?_, ?_, rfl, rfl, ?_, Nat.le_refl _, ?_, ?_, ?_, ?_, ?_, ?_, ?_, ?_⟩
  ·intro x w hw;have hw' : lk (fl (adOf all d) l) x = some w := by rw [← zaG]; exact hw
   rw [zhq] at hw';split at hw'
   ·cases hw'
   ·rename_i hc;refine ⟨by rw [hI.env]; exact hw', fun u hu ha hx => hc ?_⟩;rw [List.contains_eq_mem];simpa using zbH.2 ⟨u, hu, ha, hx⟩
  ·intro x;show (ofA (upd o.dst v l)).get x = if d.o.dst = some x then (ofA (upd o.dst v (fl (adOf all d) l))).get x else dsx.env.get x
   rw [dO, hI.env, zaG, zaG, zdv, zdv];split <;> simp_all
  ·intro x;show dsx.heap.get x = if t.t.has x then hp.get x else dsx.heap.get x
   rw [hno x]; rfl
  ·rfl
  ·intro x hx; rw [hno x] at hx; cases hx
  ·intro b hb hh; right; right; rfl
  ·intro hf; rw [df] at hf; exact ⟨rfl, hpn hf⟩
  ·intro h; cases h
  ·intro k c src h; cases h
  ·intro b y h; cases h
  ·intro b k c src h; cases h
  ·cases hf : free with
   | true => left; rw [df, hf]
   | false =>
    right; right; right;intro x z hz;obtain ⟨h1, h2⟩ := hpv hf x z hz;rcases Nat.mod_two_eq_zero_or_one x with hx | hx
    ·right;refine ⟨hx, ?_⟩;rcases h2 with h2 | h2
     ·refine hI.vis _ _ _ (fun j hj => by rw [h2] at hj; cases hj) ?_;rw [AHeap.get_even _ hx] at h1; exact h1
     ·refine hI.hid _ _ _ ?_
      have : (ext H lo (L.set k none)).get x = some z := by
       rw [← h1, zbq hI.cl, zbq hI.cl];by_cases hc : x % 2 = 0 ∧ H.fresh ≤ x
       ·rw [if_pos hc, if_pos hc]
        have hx2 : x = nb H (x / 2 - H.next) := by
         have := hc.2;simp only [AHeap.fresh] at this;simp only [nb]; omega
        rw [List.getElem?_set_ne (fun h3 => h2 (by rw [hx2, ← h3]))]
       ·rw [if_neg hc, if_neg hc]
      rw [AHeap.get_even _ hx] at this; exact this
    ·left;refine ⟨hx, ?_⟩;rw [hI.heap]; exact h1
 have hview : ∀ bef, viewA bef ds'.base.blks ds'.hist = viewA bef dsx.base.blks dsx.hist := fun bef => by
  simp only [ds'];split
  ·rfl
  ·simp only [viewA]
 have hI' : DInvF all ds' (upd o.dst v l) H lo L k tj lc' (i + 1) := by
  refine ⟨zaG _, hI.heap, hI.cl, hI.kl, fun e he => ?_, fun bef m z a b => by rw [hview]; exact hI.vis bef m z a b, fun bef m z b => by rw [hview]; exact hI.hid bef m z b⟩
  have old : ∀ e ∈ dsx.hist, EntF all H k tj lc' (i + 1) e := fun e he => by
   obtain ⟨m1, m2, m3, m4⟩ := hI.ent e he;refine ⟨m1, by omega, m3, fun hj => ?_⟩;rcases hlc _ hj with h | ⟨h, _⟩
   ·exact m4 h
   ·omega
  simp only [ds'] at he;split at he
  ·exact old e he
  ·rename_i hnf;rcases List.mem_cons.1 he with rfl | he
   ·refine ⟨⟨List.mem_of_getElem? hd, by simpa using hnf⟩, by show d.i < i + 1; omega, fun b hb => (by cases hb), fun hj => ?_⟩;have hj : d.i ∈ lc' := hj;rw [di] at hj;show hp.get _ = none;rcases hlc _ hj with h | ⟨_, h⟩
    ·exact absurd h hnl
    ·exact h
   ·exact old e he
 obtain ⟨dsf, ts, l', h1, h2⟩ := hk.out all hall hst (fun j o' hj => by
  have := hr (j + 1) o' (by simpa using hj);have e : i + 1 + j = i + (j + 1) := by omega
  rw [e]; exact this) (by simp at hlen; omega) ds' hI'
 exact ⟨dsf, t :: ts, l', by rw [hdrop]; exact .cons hstep hop' h1, h2⟩
theorem sf_turn {o : Oper} {v : Value} {x0 y : ABlk} {h' : AHeap} (hfree : isFree o.op = false) (hok : turnOk ops i lc = true) (htj : tj.all (fun j => Nat.testBit (befS ops i) j) = true) (hnl : i ∉ lc) (hLk : L[k]? = some (some x0))
  (hop : ∀ ad : List Nat, (∀ x ∈ ad, x ∉ reads ops o) → OpT P rd nt ops i ⟨ofA (fl ad l), ds, ext H lo L⟩ (fun s => s = ⟨ofA (upd o.dst v (fl ad l)), ds, h'⟩)) (q : HQ h' (ext H lo (L.set k (some y))))
  (hk : SeqF P rd nt ops r (i + 1) ds (upd o.dst v l) H lo (L.set k (some y)) k (i :: tj) lc K) : SeqF P rd nt ops (o :: r) i ds l H lo L k tj lc K := by
 refine ⟨fun all hall hst hr hlen dsx hI => ?_⟩;have ho : ops[i]? = some o := by simpa using hr 0 o rfl
 obtain ⟨d, hd, di, dO, df, db, _, dsep⟩ := zfl hall hst ho;rw [hfree] at df;have hdi : i < all.length := (List.getElem?_eq_some_iff.1 hd).1
 have hdrop : all.drop i = d :: all.drop (i + 1) := by
  rw [List.drop_eq_getElem_cons hdi]
  congr 1
  have := List.getElem?_eq_getElem hdi;rw [hd] at this; cases this; rfl
 have hop' := hop (adOf all d) (fun x hx => by
  obtain ⟨u, hu, ha, hx⟩ := zbH.1 hx;rw [← dO]; exact (dsep u hu ha x hx).2)
 rw [← di] at hop';have hcl := hI.cl;have hkl := hI.kl;have hbits : ∀ j ∈ tj, Nat.testBit d.bef j = true := fun j hj => by rw [db]; exact List.all_eq_true.1 htj j hj
 have hlocal : ∀ u ∈ all, d.apart u = true → u.free = false → u.i ∈ lc := fun u hu ha hf => by
  unfold turnOk at hok;rw [hall] at hok;simp only [hd, List.all_eq_true] at hok;have := hok u hu;rw [ha, hf] at this;simpa using this
 let b0 := nb H k
 let t : DT := ⟨⟨ofA (fl (adOf all d) l), ds, ext H lo L⟩, ⟨ofA (upd o.dst v (fl (adOf all d) l)), ds, h'⟩, .cell b0 y⟩
 let ds' : DS := ⟨ofA (upd o.dst v l), ext H lo (L.set k (some y)), dsx.base, ⟨d, t.pre.heap, t.t⟩ :: dsx.hist⟩
 have hfr : (ext H lo L).fresh = dsx.heap.fresh := by rw [hI.heap]
 have hset : (ext H lo (L.set k (some y))).fresh = (ext H lo L).fresh := by rw [zal, zal, List.length_set]
 have has : ∀ x, t.t.has x = true ↔ x = b0 := by
  intro x;show Nat.beq x b0 = true ↔ _;rw [Nat.beq_eq]
 have hgy : h'.get b0 = some y := by rw [q.get, zgx hcl hkl, if_pos rfl]
 have hstep : StepOk all ds dsx d ds' t := by
  refine ⟨?_, rfl, hfr, fun u hu ha x hx => (dsep u hu ha x hx).1, ?_, ?_, ?_, ?_, ?_, rfl, ?_, ?_, ?_, ?_, ?_, ?_, ?_, ?_, ?_, ?_⟩
  ·intro x w hw;have hw' : lk (fl (adOf all d) l) x = some w := by rw [← zaG]; exact hw
   rw [zhq] at hw';split at hw'
   ·cases hw'
   ·rename_i hc;refine ⟨by rw [hI.env]; exact hw', fun u hu ha hx => hc ?_⟩;rw [List.contains_eq_mem];simpa using zbH.2 ⟨u, hu, ha, hx⟩
  ·exact q.fresh.symm
  ·show dsx.heap.fresh ≤ h'.fresh;rw [q.fresh, hset, hfr]; exact Nat.le_refl _
  ·intro x;show (ofA (upd o.dst v l)).get x = if d.o.dst = some x then (ofA (upd o.dst v (fl (adOf all d) l))).get x else dsx.env.get x
   rw [dO, hI.env, zaG, zaG, zdv, zdv];split <;> simp_all
  ·intro x;show (ext H lo (L.set k (some y))).get x = if t.t.has x then h'.get x else dsx.heap.get x
   cases hx : t.t.has x with
   | true => rw [if_pos rfl, q.get]
   | false =>
    rw [if_neg (by simp), zgx hcl hkl, if_neg (fun e => by rw [(has x).2 e] at hx; cases hx), hI.heap]
  ·show H.base = dsx.heap.base;rw [hI.heap]; rfl
  ·show _ = if d.free then _ else _
   rw [df]; rfl
  ·show min lo H.fresh ≤ dsx.heap.low;rw [hI.heap]; exact Nat.le_refl _
  ·intro x hx hlt;show min lo H.fresh ≤ h'.low;rw [q.low]; exact Nat.le_refl _
  ·intro b hb hh;right; right;show h'.get b = (ext H lo L).get b;rw [q.get, zgx hcl hkl, if_neg (fun e => by rw [(has b).2 e] at hh; cases hh)]
  ·intro h; rw [df] at h; cases h
  ·intro h; cases h
  ·intro k c src h; cases h
  ·intro b z h;have h2 : Touch.cell b0 y = Touch.cell b z := h;cases h2;refine ⟨zao.1 (zat _), ?_, hgy, ?_, fun e he ha => ?_⟩
   ·rw [← hfr, zal]; simp only [b0, nb]; omega
   ·show (ext H lo L).get b0 ≠ none;rw [zaa hLk]; simp
   ·have hE := hI.ent e he;refine ⟨hE.off (hlocal _ hE.mem.1 ha hE.mem.2), ?_⟩
    cases hh : e.t.has b0 with
    | false => rfl
    | true =>
     exfalso;have h3 := hbits _ (hE.has _ hh).2;unfold DOp.apart at ha;rw [h3] at ha;simp at ha
  ·intro b k c src h; cases h
  ·right; right; right;intro x z hz;have hz' : (ext H lo L).get x = some z := hz;rcases Nat.mod_two_eq_zero_or_one x with h1 | h1
   ·right;refine ⟨h1, hI.vis _ _ _ hbits ?_⟩;rw [AHeap.get_even _ h1] at hz';exact hz'
   ·left;refine ⟨h1, ?_⟩;rw [hI.heap]; exact hz'
 have hv : ∀ bef, viewA bef ds'.base.blks ds'.hist = if Nat.testBit bef d.i then (viewA bef dsx.base.blks dsx.hist).set (b0 / 2) y else (viewA bef dsx.base.blks dsx.hist).del (b0 / 2) := fun bef => by
  simp only [ds', t, viewA]
 have hss : ∀ m z, m ≠ b0 / 2 → (ext H lo (L.set k (some y))).blks.get m = some z → (ext H lo (L.set k none)).blks.get m = some z := fun m z hm hz => by
  have e1 : (ext H lo (L.set k (some y))).get (2 * m) = some z := by rw [AHeap.get_even _ (by omega), show 2 * m / 2 = m by omega]; exact hz
  have hne : 2 * m ≠ nb H k := fun e => hm (by simp only [b0]; omega)
  rw [zgx hcl hkl, if_neg hne] at e1
  have e2 : (ext H lo (L.set k none)).get (2 * m) = some z := by
   rw [← e1, zbq hcl, zbq hcl];by_cases hc : 2 * m % 2 = 0 ∧ H.fresh ≤ 2 * m
   ·rw [if_pos hc, if_pos hc, List.getElem?_set_ne (fun h3 => hne (by
     have := hc.2;simp only [AHeap.fresh] at this;rw [h3]; simp only [nb]; omega))]
   ·rw [if_neg hc, if_neg hc]
  rw [AHeap.get_even _ (by omega), show 2 * m / 2 = m by omega] at e2;exact e2
 have hI' : DInvF all ds' (upd o.dst v l) H lo (L.set k (some y)) k (i :: tj) lc (i + 1) := by
  refine ⟨zaG _, rfl, hcl, by rw [List.length_set]; exact hkl, fun e he => ?_, fun bef m z a b => ?_, fun bef m z b => ?_⟩
  ·rcases List.mem_cons.1 he with rfl | he
   ·refine ⟨⟨List.mem_of_getElem? hd, df⟩, by show d.i < i + 1; omega, fun b hb => ⟨(has b).1 hb, by show d.i ∈ i :: tj; rw [di]; exact List.mem_cons_self ..⟩, fun hj => ?_⟩;have hj : d.i ∈ lc := hj;rw [di] at hj;exact absurd hj hnl
   ·obtain ⟨m1, m2, m3, m4⟩ := hI.ent e he;exact ⟨m1, by omega, fun b hb => ⟨(m3 b hb).1, List.mem_cons_of_mem _ (m3 b hb).2⟩, m4⟩
  ·rw [hv, di, if_pos (a i (List.mem_cons_self ..)), Tr.zaT];by_cases hm : m = b0 / 2
   ·rw [if_pos hm];have e1 : (ext H lo (L.set k (some y))).get (2 * m) = some z := by rw [AHeap.get_even _ (by omega), show 2 * m / 2 = m by omega]; exact b
    have he : 2 * m = nb H k := by rw [hm]; simp only [b0, nb]; omega
    rw [zgx hcl hkl, if_pos he] at e1;exact e1
   ·rw [if_neg hm];exact hI.hid bef m z (hss m z hm b)
  ·rw [List.set_set] at b;obtain ⟨_, hm⟩ := znW hcl b;have h3 := hI.hid bef m z b;rw [hv];split
   ·rw [Tr.zaT, if_neg hm]; exact h3
   ·rw [Tr.zcR, if_neg hm]; exact h3
 obtain ⟨dsf, ts, l', h1, h2⟩ := hk.out all hall hst (fun j o' hj => by
  have := hr (j + 1) o' (by simpa using hj);have e : i + 1 + j = i + (j + 1) := by omega
  rw [e]; exact this) (by simp at hlen; omega) ds' hI'
 exact ⟨dsf, t :: ts, l', by rw [hdrop]; exact .cons hstep hop' h1, h2⟩
theorem znV {o : Oper} {v : Value} {h' : AHeap} {L' : List (Option ABlk)} (hfree : isFree o.op = false) (hser : seriesS ops i = true)
  (hop : ∀ ad : List Nat, (∀ x ∈ ad, x ∉ reads ops o) → OpT P rd nt ops i ⟨ofA (fl ad l), ds, ext H lo L⟩ (fun s => s = ⟨ofA (upd o.dst v (fl ad l)), ds, h'⟩))
  (q : HQ h' (ext H lo L')) (hfr : (ext H lo L).fresh ≤ (ext H lo L').fresh)
  (hk : SeqD P rd nt ops r (i + 1) ds (upd o.dst v l) H lo L' [] [] K) : SeqF P rd nt ops (o :: r) i ds l H lo L k tj lc K := by
 refine ⟨fun all hall hst hr hlen dsx hI => ?_⟩;have ho : ops[i]? = some o := by simpa using hr 0 o rfl
 obtain ⟨d, hd, di, dO, df, db, dser, dsep⟩ := zfl hall hst ho;rw [hfree] at df;have hdi : i < all.length := (List.getElem?_eq_some_iff.1 hd).1
 have hdrop : all.drop i = d :: all.drop (i + 1) := by
  rw [List.drop_eq_getElem_cons hdi]
  congr 1
  have := List.getElem?_eq_getElem hdi;rw [hd] at this; cases this; rfl
 have hop' := hop (adOf all d) (fun x hx => by
  obtain ⟨u, hu, ha, hx⟩ := zbH.1 hx;rw [← dO]; exact (dsep u hu ha x hx).2)
 rw [← di] at hop';have hc' := hI.cl
 let t : DT := ⟨⟨ofA (fl (adOf all d) l), ds, ext H lo L⟩, ⟨ofA (upd o.dst v (fl (adOf all d) l)), ds, h'⟩, .all⟩
 let ds' : DS := ⟨ofA (upd o.dst v l), ext H lo L', ext H lo L', []⟩
 have hstep : StepOk all ds dsx d ds' t := by
  refine ⟨?_, rfl, by rw [hI.heap], fun u hu ha x hx => (dsep u hu ha x hx).1, q.fresh.symm, by rw [hI.heap]; show _ ≤ h'.fresh; rw [q.fresh]; exact hfr, ?_, ?_, ?_, rfl, rfl, ?_, ?_, ?_, ?_, ?_, ?_, ?_, ?_, ?_⟩
  ·intro x w hw;have hw' : lk (fl (adOf all d) l) x = some w := by rw [← zaG]; exact hw
   rw [zhq] at hw';split at hw'
   ·cases hw'
   ·rename_i hc;refine ⟨by rw [hI.env]; exact hw', fun u hu ha hx => hc ?_⟩;rw [List.contains_eq_mem];simpa using zbH.2 ⟨u, hu, ha, hx⟩
  ·intro x;show (ofA (upd o.dst v l)).get x = if d.o.dst = some x then (ofA (upd o.dst v (fl (adOf all d) l))).get x else dsx.env.get x
   rw [dO, hI.env, zaG, zaG, zdv, zdv];split <;> simp_all
  ·intro x;show (ext H lo L').get x = if own x then h'.get x else dsx.heap.get x
   rcases Nat.mod_two_eq_zero_or_one x with h | h
   ·rw [if_pos (zao.2 h), q.get]
   ·rw [if_neg (by rw [zao]; omega), AHeap.get_odd _ h, hI.heap, AHeap.get_odd _ h];rfl
  ·rw [hI.heap]; rfl
  ·rw [hI.heap]; exact Nat.le_refl _
  ·intro x hx hlt;show min lo H.fresh ≤ h'.low;rw [q.low]; exact Nat.le_refl _
  ·intro b hb2 hh;have : own b = false := hh;rw [zao.2 hb2] at this; cases this
  ·intro h; rw [df] at h; cases h
  ·intro _; exact ⟨fun u hu ha => dser hser u hu ha, fun x => by rw [hI.heap]⟩
  ·intro k c src h; cases h
  ·intro b y h; cases h
  ·intro b k c src h; cases h
  ·right; left; exact ⟨fun u hu ha => dser hser u hu ha, fun x => by rw [hI.heap]⟩
 have hI' : DInv ops all ds' (upd o.dst v l) H lo L' [] [] := by
  refine ⟨zaG _, by simp [ds'], rfl, hc', fun e he => (by cases he), fun bef M hM m z hz => ?_⟩;have : M = [] := List.eq_nil_of_length_eq_zero hM.len;subst this;simp only [List.append_nil] at hz;exact hz
 obtain ⟨dsf, ts, l', h1, h2⟩ := hk.out.out all hall hst (fun j o' hj => by
  have := hr (j + 1) o' (by simpa using hj);have e : i + 1 + j = i + (j + 1) := by omega
  rw [e]; exact this) (by simp at hlen; omega) ds' hI'
 exact ⟨dsf, t :: ts, l', by rw [hdrop]; exact .cons hstep hop' h1, h2⟩
theorem put0 [PC P] {op : Op} {v : Value} {o : Oper} {ty : TypeId} {pos : String} {af : Array Edge} {h h' : AHeap} {ad : List Nat} (ho : ops[i]? = some o) (e : o = ⟨none, op, ty, pos, af, none⟩) (hop : Does P l op h v h') (ha : ∀ x ∈ ad, x ∉ reads ops o) : OpT P rd nt ops i ⟨ofA (fl ad l), ds, h⟩ (fun s => s = ⟨ofA (upd o.dst v (fl ad l)), ds, h'⟩) := by
 subst e;refine zbE PC.ok ho (s := ⟨ofA (fl ad l), ds, h⟩) rfl (zha hop ha) fun u H' hm => ?_
 rw [List.mem_singleton] at hm;cases hm;exact ⟨_, rfl, rfl⟩
theorem sf_ho {o : Oper} {r : List Oper} (h : ops[i]? = some o → SeqF P rd nt ops (o :: r) i ds l H lo L k tj lc K) : SeqF P rd nt ops (o :: r) i ds l H lo L k tj lc K :=
 ⟨fun all a1 a2 a3 a4 dsx hI => (h (by simpa using a3 0 o rfl)).out all a1 a2 a3 a4 dsx hI⟩
theorem off_sub {x : Nat} {z : ABlk} (hc : Closed H) (h : (ext H lo (L.set k none)).get x = some z) : (ext H lo L).get x = some z ∧ x ≠ nb H k := by
 have hne : x ≠ nb H k := fun e => by rw [e, znX hc] at h; cases h
 refine ⟨?_, hne⟩;rw [← h, zbq hc, zbq hc];by_cases hx : x % 2 = 0 ∧ H.fresh ≤ x
 ·rw [if_pos hx, if_pos hx, List.getElem?_set_ne (fun h3 => hne (by
   have := hx.2;simp only [AHeap.fresh] at this;rw [h3]; simp only [nb]; omega))]
 ·rw [if_neg hx, if_neg hx]
variable {ty : TypeId} {pos : String} {af : Array Edge}
theorem sf_off [PC P] {Lx : List (Option ABlk)} {d : Nat} {op : Op} {v : Value} (hc : Closed H) (hfree : isFree op = false) (hLx : L.set k none = Lx) (hnl : lc.contains i = false) (hop : Does P l op (ext H lo Lx) v (ext H lo Lx)) (hd : Nat.blt d nt = true)
  (hk : SeqF P rd nt ops r (i + 1) ds ((d, v) :: l) H lo L k tj (i :: lc) K) : SeqF P rd nt ops (⟨some d, op, ty, pos, af, none⟩ :: r) i ds l H lo L k tj lc K := by
 subst hLx;refine sf_ho fun ho => sf_none (hp := ext H lo (L.set k none)) (lc' := i :: lc) false hfree (by rw [zal, zal, List.length_set]) (fun _ ha => zgP ho rfl hop hd ha) (fun h => (by cases h)) (fun _ x z hz => ?_) (fun j hj => ?_) (fun hm => by rw [List.contains_iff_mem.2 hm] at hnl; cases hnl) hk
 ·obtain ⟨h1, h2⟩ := off_sub hc hz;exact ⟨h1, .inr h2⟩
 ·rcases List.mem_cons.1 hj with rfl | hj
  ·exact .inr ⟨rfl, znX hc⟩
  ·exact .inl hj
theorem zpX [PC P] {op : Op} {v : Value} {x0 y : ABlk} (hc : Closed H) (hfree : isFree op = false) (hok : turnOk ops i lc = true) (htj : tj.all (fun j => Nat.testBit (befS ops i) j) = true) (hnl : lc.contains i = false) (hLk : L[k]? = some (some x0)) (hop : Does P l op (ext H lo L) v ((ext H lo L).put (nb H k) y))
  (hk : SeqF P rd nt ops r (i + 1) ds l H lo (L.set k (some y)) k (i :: tj) lc K) : SeqF P rd nt ops (⟨none, op, ty, pos, af, none⟩ :: r) i ds l H lo L k tj lc K :=
 sf_ho fun ho => sf_turn (o := ⟨none, op, ty, pos, af, none⟩) (v := v) hfree hok htj (fun hm => by rw [List.contains_iff_mem.2 hm] at hnl; cases hnl) hLk (fun _ ha => put0 ho rfl hop ha) (zem hc (List.getElem?_eq_some_iff.1 hLk).1 y) hk
end
end Go.Den
