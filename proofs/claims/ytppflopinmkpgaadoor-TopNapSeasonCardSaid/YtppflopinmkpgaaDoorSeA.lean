/- Contracts: matches without some teams. -/
import Derived.Test.YtppflopinmkpgaaDoorTcG
import Derived.Test.YtppflopinmkpgaaDoorTbO
import Derived.Test.YtppflopinmkpgaaDoorTiA
noncomputable section
namespace Go.Proofs.YtppflopinmkpgaaDoor
open Go Go.Den
set_option maxRecDepth 100000

section
variable {P : Program} {l : EL} {h : AHeap} {α : Type} {w : Nat}
theorem do_tail {lst : List α} {t : TypeId} {x lo' : Operand} {b c i : Nat} {ag s ro : Bool} {k : IntKind} {cs : List Value} (hx : ev l x = some (.slice (some ⟨b, 0, none⟩) lst.length c)) (hh : ev l lo' = some (.int k i)) (hs : selOf P t = some (w, ag)) (hg : h.get b = some (.cells cs w s ro)) (hc : lst.length ≤ c) (hi : i < lst.length) :
    Does P l (.slice t x (some lo') none none) h (.slice (some ⟨b, i * w, none⟩) (lst.length - i) (c - i)) h := by
  obtain ⟨ti, e, ei, h1, h2, h3, h4, h5⟩ := selOf_spec hs
  have hb : bounds3 lst.length c (some (.int k (i : Int))) none none = some (i, lst.length, c) := by
    simp only [bounds3, bound, Option.isSome_none]
    rw [if_pos ⟨by omega, by omega⟩]
    simp; omega
  have hx2 : eszIs h b w = true := by simp [eszIs, hg]
  refine do_slice (p := some (.int k i)) (q := none) (r := none) hx (by simp only [evO, hh]) rfl rfl ?_
  simp only [sliceA, h1, h2, h3, hb]
  have hcl : ¬ c = i := by omega
  by_cases hi0 : i = 0
  · subst hi0; simp
  · rw [if_neg (by simpa using hi0), if_neg (by simpa using hcl), if_pos (by rw [h4, hx2]; simp), h4, Nat.zero_add]
end
theorem do_clear {P : Program} {l : EL} {h : AHeap} {args : Array Operand} {tys : Array TypeId} {st : TypeId} {r : List TypeId} {b o n c m z : Nat} {ag k : Bool} {e : TypeId} {zs cs cs' : List Value} (ha : evs l args.toList = some [.slice (some ⟨b, o, none⟩) n c]) (hty : tys.toList = st :: r)
    (hs : selOf P st = some (m, ag)) (he : (tyOf P st).map (·.und) = some (.slice e)) (hz : zerOf P e = some zs) (hb : h.get b = some (.cells cs z k false)) (ho : own b = true) (hw : writeAt cs o (repl zs n) = some cs') (hn : 0 < n) :
    Does P l (.call ⟨.builtin .clear, args, tys⟩) h undefV (h.put b (.cells cs' z k false)) := by
  refine do_builtin ha ?_
  rw [hty]
  obtain ⟨ti, e', ei, g1, g2, g3, g4, g5⟩ := selOf_spec hs
  obtain ⟨ez, k1, k2⟩ := zerOf_spec hz
  have : e' = e := by
    cases hti : tyOf P st with
    | none => rw [hti] at he; cases he
    | some ti' =>
      rw [hti] at he
      have := ctx_ty hti
      rw [g1] at this; cases this
      simp only [Option.map_some, Option.some.injEq] at he
      rw [g2] at he; cases he; rfl
  subst this
  rw [g3] at k1; cases k1
  have hn0 : (n == 0) = false := by simp; omega
  simp only [biA, clearA, g1, g2, g3, hn0, hb, k2, ho, hw]
  rfl

theorem tidy_cgV {H H1 : AHeap} {b : Nat} {x : ABlk} {v : Value} {L : List (Option ABlk)} {lo : Nat} (hb : own b = true) (hlt : b < H.fresh) (hx : ∃ cs z s ro, x = .cells cs z s ro ∧ cs.all (flatD 8) = true) (hp : Cg H H1 b x) (hv : renV (renOf H []) 8 v = some v) : Tidy H v (ext H1 lo L) v (H.put b x) := by
  have hc1 := hp.puts.closed
  refine tidy_of (H0 := H.put b x) (ys := []) (l := []) (ren := renOf H []) ?_ hv
  refine ⟨fun b h => by simp only [renOf, if_pos h], fun b c h1 h2 => ?_, fun k b h => by simp at h, rfl, fun k b y h => by simp at h, rfl, fun c hc => ?_, fun c h1 h2 => ?_, fun c y h1 h2 h3 => ?_, Nat.min_le_left _ _, fun c h1 h2 => ?_⟩
  · simp only [renOf, if_neg h1] at h2
    simp at h2
  · rw [put_get hb, if_neg (by intro e; subst e; rw [own_iff] at hb; omega)]
  · have hne : c ≠ b := by omega
    rw [put_get hb, if_neg hne, ← hp.off c hne]
    exact hp.puts.ge c h1 h2
  · rw [put_get hb] at h3
    by_cases e : c = b
    · rw [if_pos e] at h3
      cases h3
      obtain ⟨cs, z, s, ro, rfl, hf⟩ := hx
      subst e
      exact .inr ⟨_, ext_get_old hc1 hp.at_, renB_flat hf⟩
    · rw [if_neg e] at h3
      exact .inl ⟨h3, ext_get_old hc1 (by rw [hp.off c e]; exact h3)⟩
  · have h2' : c < min H.low b := h2
    rw [put_get hb, if_neg (by omega)]
/-- the same, what is returned may lie in old blocks -/
theorem fin_cgV {P : Program} {H H1 : AHeap} {b : Nat} {x : ABlk} {Q : Value → AHeap → Prop} {rs : Array ResultVar} {l : EL} {L : List (Option ABlk)} {lo : Nat} {vs : List Value} (hb : own b = true) (hlt : b < H.fresh) (hx : ∃ cs z s ro, x = .cells cs z s ro ∧ cs.all (flatD 8) = true) (hp : Cg H H1 b x)
    (hr : resE l rs.toList = some vs) (hv : renV (renOf H []) 8 (packA vs) = some (packA vs)) (hq : Q (packA vs) (H.put b x)) : Fin P rs H Q ⟨ofA l, [], ext H1 lo L⟩ :=
  ⟨⟨_, vs, packA vs, H.put b x, rfl, resE_A hr, tidy_cgV hb hlt hx hp hv, hq⟩⟩
theorem ren_slice {H : AHeap} {b o n c : Nat} (hlt : b < H.fresh) : renV (renOf H []) 8 (.slice (some ⟨b, o, none⟩) n c) = some (.slice (some ⟨b, o, none⟩) n c) := by
  simp [renV, renOf, hlt]

def zeroM : Ma := ⟨0, 0, 0, 0, ⟨⟨[]⟩⟩⟩
abbrev mtB (l : List Ma) (z : Nat) (s : Bool) : ABlk := .cells (l.flatMap mt) z s false
theorem mt_flat (l : List Ma) : (l.flatMap mt).all (flatD 8) = true := by
  rw [List.all_eq_true]
  intro x hx
  obtain ⟨y, _, hy⟩ := List.mem_flatMap.1 hx
  simp only [mt, List.mem_cons, List.not_mem_nil, or_false] at hy
  rcases hy with rfl | rfl | rfl | rfl | rfl <;> rfl
/-- what is kept of the first ones -/
def keptM (p : Ma → Bool) (l : List Ma) (j : Nat) : List Ma := (l.take j).filter fun m => !p m
/-- the list, as it stands behind j elements -/
def stM (p : Ma → Bool) (l : List Ma) (j : Nat) : List Ma := keptM p l j ++ l.drop (keptM p l j).length
section
variable {p : Ma → Bool} {l : List Ma} {j : Nat}
theorem keptM_le : (keptM p l j).length ≤ j := Nat.le_trans (List.length_filter_le _ _) (by rw [List.length_take]; omega)
theorem keptM_succ (h : j < l.length) : keptM p l (j + 1) = if p l[j] = true then keptM p l j else keptM p l j ++ [l[j]] := by
  unfold keptM
  rw [take_snoc h, List.filter_append]
  cases hp : p l[j] <;> simp [hp]
theorem stM_len (h : j ≤ l.length) : (stM p l j).length = l.length := by
  have := keptM_le (p := p) (l := l) (j := j)
  simp only [stM, List.length_append, List.length_drop]; omega
theorem stM_at (h : j < l.length) (h' : j < (stM p l j).length) : (stM p l j)[j] = l[j] := by
  have := keptM_le (p := p) (l := l) (j := j)
  have e : (stM p l j)[j]? = some l[j] := by
    unfold stM
    rw [List.getElem?_append_right (by omega), List.getElem?_drop, show (keptM p l j).length + (j - (keptM p l j).length) = j by omega]
    exact List.getElem?_eq_getElem h
  exact (List.getElem?_eq_some_iff.1 e).2
theorem stM_set (h : j < l.length) (hp : p l[j] = false) : (stM p l j).set (keptM p l j).length l[j] = stM p l (j + 1) := by
  have := keptM_le (p := p) (l := l) (j := j)
  have e : keptM p l (j + 1) = keptM p l j ++ [l[j]] := by rw [keptM_succ h, hp]; rfl
  unfold stM
  rw [e, List.set_append, if_neg (by omega), Nat.sub_self, List.drop_eq_getElem_cons (by omega), List.set_cons_zero]
  simp
theorem stM_skip (h : j < l.length) (hp : p l[j] = true) : stM p l j = stM p l (j + 1) := by
  unfold stM
  rw [keptM_succ h, hp]; rfl
theorem keptM_first {i : Nat} (hi : i ≤ l.length) (h : ∀ k (hk : k < l.length), k < i → p l[k] = false) : keptM p l i = l.take i := by
  unfold keptM
  rw [List.filter_eq_self]
  intro x hx
  obtain ⟨k, hk, rfl⟩ := List.getElem_of_mem hx
  rw [List.length_take] at hk
  rw [List.getElem_take, h k (by omega) (by omega)]; rfl
end

theorem indexFuncM_c {H : AHeap} {q : Option Addr} {c g : Nat} {caps : List Value} {l : List Ma} {p : Ma → Bool} (hs : SlAt H 5 mt q l) (hn : l.length < 1000000000000)
    (hp : ∀ x ∈ l, ∀ H', Ext H H' → Ret Tryd.prog g (.agg ⟨mt x⟩ :: caps) H' (.bool (p x)) H') :
    Ret Tryd.prog 63 [.slice q l.length c, .func (.func g) #[] ⟨caps⟩] H (I (idxOf p l 0)) H := by
  refine fn_start Tryd.func63 rfl rfl rfl fun hc => ?_
  apply ct_seq
  apply ct_region
  apply seq_plain; exact do_assign rfl; exact rfl
  apply seq_nil
  apply ct_seq
  apply ct_seq
  apply ct_region
  apply seq_plain; exact do_move rfl; exact rfl
  apply seq_plain; exact do_lenS rfl rfl rfl; exact rfl
  apply seq_plain; exact do_move rfl; exact rfl
  apply seq_nil
  apply ct_block
  apply ct_loop
  refine lt_up (fun i => [(0, .slice q l.length c), (1, .func (.func g) #[] ⟨caps⟩), (7, I l.length), (8, I i)]) (fun i => ∀ j (hj : j < l.length), j < i → p l[j] = false) l.length (fun i hi hJ ih => ?_) 0 (by omega) (by intros; omega) (by repeat (first | exact sub_nil | apply sub_cons rfl))
  apply ct_seq
  apply ct_region
  apply seq_plain; exact do_binInt rfl rfl rfl trivial; exact rfl
  apply seq_nil
  apply ct_seq
  refine ct_cond rfl (fun hb => ?_) (fun hb => ?_)
  · simp only [decide_eq_true_eq, Int.ofNat_lt] at hb
    obtain ⟨b, o, cs, z, s, ro, rfl, hg, hw⟩ := hs.out (by intro e; rw [e] at hb; simp at hb)
    apply ct_skip
    apply ct_seq
    apply ct_block
    apply ct_seq
    apply ct_region
    apply seq_plain; exact do_move rfl; exact rfl
    apply seq_plain; exact do_assign rfl; exact rfl
    apply seq_nil
    apply ct_seq
    apply ct_region
    apply seq_plain; exact do_move rfl; exact rfl
    apply seq_plain; exact do_move rfl; exact rfl
    apply seq_plain; exact do_move rfl; exact rfl
    apply seq_plain; exact do_indexAddrS rfl rfl rfl (by exact idx_nat (by omega)); exact rfl
    apply seq_plain; exact do_load rfl (by exact ext_get_old (by assumption) (by assumption)) rfl (by exact pt_sl (by assumption) (by omega)); exact rfl
    apply seq_call (ht := rfl); exact hp _ (List.getElem_mem hb) _ (ext_Ext hc); exact rfl
    apply seq_nil
    refine ct_cond rfl (fun h2 => ?_) (fun h2 => ?_)
    · apply ct_seq
      apply ct_region
      apply seq_plain; exact do_move rfl; exact rfl
      apply seq_plain; exact do_assign rfl; exact rfl
      apply seq_nil
      apply ct_ret
      refine fin_flat hc rfl rfl ⟨?_, rfl⟩
      rw [idxOf_at hb 0 hJ h2]; simp [packA]
    · apply ct_skip
      apply ct_region
      apply seq_plain; exact do_succ rfl (by omega); exact rfl
      apply seq_plain; exact do_move rfl; exact rfl
      apply seq_nil
      refine lt_sub ?_ (ih (i + 1) (by omega) (by omega) fun j hj hji => ?_)
      · (repeat (first | exact sub_nil | apply sub_cons rfl))
      · rcases Nat.lt_or_ge j i with h | h
        · exact hJ j hj h
        · have : j = i := by omega
          subst this; exact h2
  · simp only [decide_eq_false_iff_not, Int.ofNat_lt] at hb
    apply ct_exit
    apply exit_eq; exact rfl
    apply ct_seq
    apply ct_region
    apply seq_plain; exact do_assign rfl; exact rfl
    apply seq_nil
    apply ct_ret
    refine fin_flat hc rfl rfl ⟨?_, rfl⟩
    rw [idxOf_none 0 fun j hj => hJ j hj (by omega)]; rfl

/-- a team plays -/
def playsM (ks : List Int) (m : Ma) : Bool := (ks.any fun x => m.home == x) || ks.any fun x => m.away == x
theorem without1_c {H : AHeap} {b z : Nat} {s ro : Bool} {q : Option Addr} {c : Nat} {ks : List Int} {m : Ma} (hb : H.get b = some (.cells [.slice q ks.length c] z s ro)) (hs : SlAt H 1 i1 q ks) (hn : ks.length < 1000000000000) :
    Ret Tryd.prog 35 [.agg ⟨mt m⟩, .pointer (some ⟨b, 0, none⟩)] H (.bool (playsM ks m)) H := by
  refine fn_start Tryd.func35 rfl rfl rfl fun hc => ?_
  apply ct_seq
  apply ct_region
  apply seq_newP; exact do_box rfl rfl rfl; exact rfl
  apply seq_plain; exact do_assign rfl; exact rfl
  apply seq_nil
  apply ct_seq
  apply ct_region
  apply seq_plain; exact do_load rfl (by exact ext_get_old (by assumption) (by assumption)) rfl (by exact rfl); exact rfl
  apply seq_plain; exact do_fieldAddr rfl rfl; exact rfl
  apply seq_plain; exact do_load rfl (by exact ext_get_new rfl) rfl (by exact rfl); exact rfl
  apply seq_call (ht := rfl); exact contains_c (hs.ext (ext_Ext hc)) hn; exact rfl
  apply seq_plain; exact do_move rfl; exact rfl
  refine seq_gsplit rfl rfl (fun u => ?_) (fun u => ?_)
  · have u : (ks.any fun x => m.home == x) = true := u
    apply seq_passed (hd := rfl) (hl := rfl) (hb := rfl); exact rfl
    apply seq_passed (hd := rfl) (hl := rfl) (hb := rfl); exact rfl
    apply seq_passed (hd := rfl) (hl := rfl) (hb := rfl); exact rfl
    apply seq_passed (hd := rfl) (hl := rfl) (hb := rfl); exact rfl
    apply seq_plain; exact do_pick_t rfl rfl; exact rfl
    apply seq_plain; exact do_assign rfl; exact rfl
    apply seq_nil
    apply ct_ret
    refine fin_flat hc rfl rfl ⟨?_, rfl⟩
    simp [packA, playsM, u]
  · have u : (ks.any fun x => m.home == x) = false := u
    apply seq_guard (hd := rfl) (hl := rfl); exact do_load rfl (by exact ext_get_old (by assumption) (by assumption)) rfl (by exact rfl); exact rfl
    apply seq_guard (hd := rfl) (hl := rfl); exact do_fieldAddr rfl rfl; exact rfl
    apply seq_guard (hd := rfl) (hl := rfl); exact do_load rfl (by exact ext_get_new rfl) rfl (by exact rfl); exact rfl
    apply seq_gcall (hg := rfl) (hl := rfl) (ht := rfl); exact contains_c (hs.ext (ext_Ext hc)) hn; exact rfl
    apply seq_plain; exact do_pick_f rfl rfl; exact rfl
    apply seq_plain; exact do_assign rfl; exact rfl
    apply seq_nil
    apply ct_ret
    refine fin_flat hc rfl rfl ⟨?_, rfl⟩
    simp [packA, playsM, u]
/-- b stays out of sight -/
def ExtO (b : Nat) (H H' : AHeap) : Prop := ∀ c y, c ≠ b → H.get c = some y → H'.get c = some y
set_option maxHeartbeats 4000000 in
theorem deleteFunc_c {H : AHeap} {b g : Nat} {caps : List Value} {l : List Ma} {p : Ma → Bool} (hb : own b = true) (hlt : b < H.fresh) (hg : H.get b = some (mtB l 5 true)) (hn : l.length < 1000000000000)
    (hp : ∀ x ∈ l, ∀ H', ExtO b H H' → Ret Tryd.prog g (.agg ⟨mt x⟩ :: caps) H' (.bool (p x)) H') :
    ∃ k, k = (l.filter fun m => !p m).length ∧ Ret Tryd.prog 33 [.slice (some ⟨b, 0, none⟩) l.length l.length, .func (.func g) #[] ⟨caps⟩] H (.slice (some ⟨b, 0, none⟩) k l.length) (H.put b (mtB ((l.filter fun m => !p m) ++ List.replicate (l.length - k) zeroM) 5 true)) := by
  refine ⟨_, rfl, ?_⟩
  have hs : SlAt H 5 mt (some ⟨b, 0, none⟩) l := slAt_flat mt_len hg
  refine fn_start Tryd.func33 rfl rfl rfl fun hc => ?_
  apply ct_seq
  apply ct_region
  apply seq_plain; exact do_assign rfl; exact rfl
  apply seq_nil
  apply ct_seq
  apply ct_region
  apply seq_plain; exact do_move rfl; exact rfl
  apply seq_plain; exact do_move rfl; exact rfl
  apply seq_call (ht := rfl); exact indexFuncM_c (hs.ext (ext_Ext hc)) hn (fun x hx H' h' => hp x hx H' (fun c y _ hy => h' _ _ (ext_Ext hc _ _ hy))); exact rfl
  apply seq_plain; exact do_assign rfl; exact rfl
  apply seq_nil
  apply ct_seq
  apply ct_seq
  apply ct_region
  apply seq_plain; exact do_move rfl; exact rfl
  apply seq_plain; exact do_binInt rfl rfl rfl trivial; exact rfl
  apply seq_nil
  by_cases hall : ∀ j (hj : j < l.length), p l[j] = false
  · rw [idxOf_none 0 hall]
    refine ct_cond_t rfl rfl ?_
    apply ct_seq
    apply ct_region
    apply seq_plain; exact do_move rfl; exact rfl
    apply seq_plain; exact do_assign rfl; exact rfl
    apply seq_nil
    apply ct_ret
    have hf : (l.filter fun m => !p m) = l := by
      rw [List.filter_eq_self]
      intro x hx
      obtain ⟨k, hk, rfl⟩ := List.getElem_of_mem hx
      rw [hall k hk]; rfl
    rw [hf, Nat.sub_self]
    refine fin_cgV hb hlt ⟨_, _, _, _, rfl, mt_flat _⟩ (Cg.refl hc hg) rfl (ren_slice hlt) ?_
    simp [packA]
  obtain ⟨i0, hi0, hp0, hfirst⟩ : ∃ i, ∃ hi : i < l.length, p l[i] = true ∧ ∀ k (hk : k < l.length), k < i → p l[k] = false := by
    have key : ∀ n i (hi : i < l.length), i ≤ n → p l[i] = true → ∃ i, ∃ hi : i < l.length, p l[i] = true ∧ ∀ k (hk : k < l.length), k < i → p l[k] = false := by
      intro n
      induction n with
      | zero => intro i hi hn h; exact ⟨i, hi, h, fun k hk hki => by omega⟩
      | succ n ih =>
        intro i hi hn h
        by_cases q : ∃ k, ∃ hk : k < l.length, k < i ∧ p l[k] = true
        · obtain ⟨k, hk, h1, h2⟩ := q
          exact ih k hk (by omega) h2
        · exact ⟨i, hi, h, fun k hk hki => by
            cases e : p l[k]
            · rfl
            · exact absurd ⟨k, hk, hki, e⟩ q⟩
    have q : ∃ k, ∃ hk : k < l.length, p l[k] = true := by
      apply Classical.byContradiction
      intro q
      refine hall fun j hj => ?_
      cases e : p l[j]
      · rfl
      · exact absurd ⟨j, hj, e⟩ q
    obtain ⟨k, hk, h⟩ := q
    exact key k k hk (Nat.le_refl _) h
  have k0 : keptM p l (i0 + 1) = l.take i0 := by rw [keptM_succ hi0, if_pos hp0, keptM_first (by omega) hfirst]
  have kl0 : (keptM p l (i0 + 1)).length = i0 := by rw [k0, List.length_take]; omega
  have s0 : stM p l (i0 + 1) = l := by unfold stM; rw [kl0, k0, List.take_append_drop]
  rw [idxOf_at hi0 0 hfirst hp0]
  have hne : ((i0 : Int) == -1) = false := by simp
  simp only [Nat.zero_add]
  refine ct_cond_f rfl hne ?_
  apply ct_skip
  apply ct_seq
  apply ct_seq
  apply ct_region
  apply seq_plain; exact do_move rfl; exact rfl
  apply seq_plain; exact do_succ rfl (by omega); exact rfl
  apply seq_plain; exact do_assign rfl; exact rfl
  apply seq_nil
  apply ct_block
  apply ct_loop
  refine lt_meas (α := Nat × AHeap × Nat × List (Option ABlk)) (fun a => [(0, .slice (some ⟨b, 0, none⟩) l.length l.length), (1, .func (.func g) #[] ⟨caps⟩), (5, I (keptM p l a.1).length), (6, I a.1)]) (fun a => ext a.2.1 a.2.2.1 a.2.2.2)
    (fun a => a.1 ≤ l.length ∧ i0 + 1 ≤ a.1 ∧ Cg H a.2.1 b (mtB (stM p l a.1) 5 true)) (fun a => l.length - a.1) (fun a ha ih => ?_) (i0 + 1, H, H.fresh, []) ⟨by simp only; omega, Nat.le_refl _, by rw [s0]; exact Cg.refl hc hg⟩ (by simp only [kl0]; repeat (first | exact sub_nil | apply sub_cons rfl)) (.refl _)
  obtain ⟨j, H1, lo1, L1⟩ := a
  obtain ⟨hj, hij, c1⟩ := ha
  simp only at hj hij c1 ih ⊢
  have ih' := fun i' H' lo' L' a1 a2 a3 a4 => ih (i', H', lo', L') a1 ⟨a2, a3, a4⟩
  simp only at ih'
  clear ih
  have hc1 := c1.puts.closed
  have hg1 := c1.at_
  have hf1 : b < H1.fresh := by rw [c1.puts.fresh]; exact hlt
  have hkl := keptM_le (p := p) (l := l) (j := j)
  have hsl := stM_len (p := p) hj
  apply ct_seq
  apply ct_seq
  apply ct_region
  apply seq_plain; exact do_move rfl; exact rfl
  apply seq_plain; exact do_move rfl; exact rfl
  apply seq_plain; exact do_lenS rfl rfl rfl; exact rfl
  apply seq_plain; exact do_binInt rfl rfl rfl trivial; exact rfl
  apply seq_nil
  refine ct_cond rfl (fun h1 => ?_) (fun h1 => ?_)
  · simp only [decide_eq_true_eq, Int.ofNat_lt] at h1
    have hat := stM_at (p := p) h1 (by omega)
    apply ct_skip
    apply ct_seq
    apply ct_block
    apply ct_seq
    apply ct_region
    apply seq_plain; exact do_move rfl; exact rfl
    apply seq_plain; exact do_move rfl; exact rfl
    apply seq_plain; exact do_indexAddrS rfl rfl rfl (by exact idx_nat (by omega)); exact rfl
    apply seq_plain; exact do_load rfl (by exact ext_get_old (by assumption) (by assumption)) rfl (by exact pt_flat mt_len (by omega)); exact rfl
    apply seq_newP; exact do_alloc rfl rfl; exact rfl
    apply seq_putC (hc := by assumption); rotate_left; exact do_store rfl rfl (by exact ext_get_new List.getElem?_concat_length) rfl rfl (nb_own _); rotate_left; exact (by simp)
    apply ct_seq
    apply ct_region
    apply seq_plain; exact do_move rfl; exact rfl
    apply seq_plain; exact do_load rfl (by exact ext_get_new getSetLast) rfl (by exact rfl); exact rfl
    rw [hat]
    skip
    apply seq_call (ht := rfl); exact hp l[j] (List.getElem_mem h1) _ (fun c y hne hy => ext_get_old hc1 (by rw [c1.off c hne]; exact hy)); exact rfl
    apply seq_plain; exact do_unOp rfl rfl; exact rfl
    apply seq_nil
    refine ct_cond rfl (fun h2 => ?_) (fun h2 => ?_)
    · have h2 : p l[j] = false := by simpa using h2
      have hset := stM_set h1 h2
      have hks : (keptM p l (j + 1)).length = (keptM p l j).length + 1 := by rw [keptM_succ h1, h2]; simp
      apply ct_seq
      apply ct_region
      apply seq_plain; exact do_move rfl; exact rfl
      apply seq_plain; exact do_move rfl; exact rfl
      apply seq_plain; exact do_load rfl (by exact ext_get_new getSetLast) rfl (by exact rfl); exact rfl
      apply seq_plain; exact do_indexAddrS rfl rfl rfl (by exact idx_nat (by omega)); exact rfl
      refine seq_putOC (b := b) (x := mtB ((stM p l j).set (keptM p l j).length l[j]) 5 true) hc1 hb hf1 (do_store rfl rfl (ext_get_old hc1 hg1) rfl (stl_elem mt_len (fun _ => rfl) (by omega)) hb) ?_
      have c2 := c1.put (z := 5) (s := true) (ro := false) hb hlt (mt_flat ((stM p l j).set (keptM p l j).length l[j]))
      rw [hset] at c2 ⊢
      apply ct_region
      apply seq_plain; exact do_move rfl; exact rfl
      apply seq_plain; exact do_succ rfl (by omega); exact rfl
      apply seq_plain; exact do_assign rfl; exact rfl
      apply seq_nil
      apply ct_region
      apply seq_plain; exact do_move rfl; exact rfl
      apply seq_plain; exact do_succ rfl (by omega); exact rfl
      apply seq_plain; exact do_assign rfl; exact rfl
      apply seq_nil
      refine lt_to ?_ (.refl _) (ih' (j + 1) _ _ _ (by omega) (by omega) (by omega) c2)
      rw [hks]
      (repeat (first | exact sub_nil | apply sub_cons rfl))
    · have h2 : p l[j] = true := by simpa using h2
      have hks : keptM p l (j + 1) = keptM p l j := by rw [keptM_succ h1, h2]; rfl
      rw [stM_skip h1 h2] at c1
      apply ct_skip
      apply ct_region
      apply seq_plain; exact do_move rfl; exact rfl
      apply seq_plain; exact do_succ rfl (by omega); exact rfl
      apply seq_plain; exact do_assign rfl; exact rfl
      apply seq_nil
      refine lt_to ?_ (.refl _) (ih' (j + 1) _ _ _ (by omega) (by omega) (by omega) c1)
      rw [hks]
      (repeat (first | exact sub_nil | apply sub_cons rfl))
  have h1 : j = l.length := by simp at h1; omega
  subst h1
  have hkf : keptM p l l.length = l.filter fun m => !p m := by unfold keptM; rw [List.take_length]
  have hklt : (keptM p l l.length).length < l.length := by
    have e := List.take_append_drop (i0 + 1) l
    have h3 : (keptM p l l.length).length = (keptM p l (i0 + 1)).length + ((l.drop (i0 + 1)).filter fun m => !p m).length := by
      rw [hkf]
      conv => lhs; rw [← e]
      rw [List.filter_append, List.length_append]; rfl
    have h4 := List.length_filter_le (fun m => !p m) (l.drop (i0 + 1))
    rw [List.length_drop] at h4
    omega
  rw [hkf] at hklt ⊢
  have hst : stM p l l.length = (l.filter fun m => !p m) ++ l.drop (l.filter fun m => !p m).length := by unfold stM; rw [hkf]
  apply ct_exit
  apply exit_eq; exact rfl
  apply ct_seq
  apply ct_region
  apply seq_plain; exact do_move rfl; exact rfl
  apply seq_plain; exact do_move rfl; exact rfl
  apply seq_plain; exact do_tail (lst := stM p l l.length) (w := 5) (by rw [hsl]; rfl) rfl rfl (ext_get_old hc1 hg1) (by omega) (by omega); exact rfl
  rw [hsl]
  refine seq_putOC (b := b) (x := mtB ((l.filter fun m => !p m) ++ List.replicate (l.length - (l.filter fun m => !p m).length) zeroM) 5 true) hc1 hb hf1 (do_clear (e := 32) rfl rfl rfl rfl rfl (ext_get_old hc1 hg1) hb ?_ (by omega)) ?_
  · refine Eq.trans (congrArg (writeAt _ _) (repl_flatR (f := mt) (x := zeroM) _)) ?_
    rw [hst, List.flatMap_append, List.flatMap_append]
    have w := writeAt_app (a := (l.drop (l.filter fun m => !p m).length).flatMap mt) (b := (List.replicate (l.length - (l.filter fun m => !p m).length) zeroM).flatMap mt) (c := []) (p := (l.filter fun m => !p m).flatMap mt) (by rw [len_flat mt_len, len_flat mt_len, List.length_drop, List.length_replicate])
    rw [List.append_nil, List.append_nil, len_flat mt_len] at w
    exact w
  have c2 := c1.put (z := 5) (s := true) (ro := false) hb hlt (mt_flat ((l.filter fun m => !p m) ++ List.replicate (l.length - (l.filter fun m => !p m).length) zeroM))
  apply ct_seq
  apply ct_region
  apply seq_plain; exact do_move rfl; exact rfl
  apply seq_plain; exact do_move rfl; exact rfl
  apply seq_plain; exact do_sliceTo rfl rfl rfl (by intro e; cases e) (by rintro _ ⟨⟩; rfl) (by omega); exact rfl
  apply seq_plain; exact do_assign rfl; exact rfl
  apply seq_nil
  apply ct_ret
  exact fin_cgV hb hlt ⟨_, _, _, _, rfl, mt_flat _⟩ c2 rfl (ren_slice hlt) ⟨rfl, rfl⟩

theorem slAt_allM {cs : List Value} : ∀ {l : List Ma} {o : Nat}, (∀ i (h : i < l.length), sliceIn cs (o + i * 5) 5 = some (mt l[i])) → sliceIn cs o (l.length * 5) = some (l.flatMap mt)
  | [], o, _ => by simp [sliceIn]
  | a :: r, o, hw => by
    have h0 := hw 0 (by simp)
    simp only [Nat.zero_mul, Nat.add_zero, List.getElem_cons_zero] at h0
    have hr := slAt_allM (cs := cs) (l := r) (o := o + 5) (fun i hi => by
      have := hw (i + 1) (by simpa using hi)
      rw [show o + (i + 1) * 5 = o + 5 + i * 5 by omega] at this
      simpa using this)
    rw [sliceIn_some] at h0 hr ⊢
    obtain ⟨a1, a2⟩ := h0
    obtain ⟨b1, b2⟩ := hr
    refine ⟨?_, by rw [len_flat mt_len]⟩
    rw [List.length_cons, Nat.succ_mul, Nat.add_comm, List.take_add, a1, List.drop_drop, b1, List.flatMap_cons]
theorem cloneM_c {H : AHeap} {q : Option Addr} {c : Nat} {l : List Ma} (hs : SlAt H 5 mt q l) (hn : l.length < 1000000000) (hne : l ≠ []) :
    Ret Tryd.prog 34 [.slice q l.length c] H (.slice (some ⟨H.fresh, 0, none⟩) l.length l.length) (H.add (mtB l 5 true)) := by
  have h0 : 0 < l.length := List.length_pos_iff.2 hne
  obtain ⟨b, o, cs, z, s, ro, rfl, hg, hw⟩ := hs.out hne
  refine fn_start Tryd.func34 rfl rfl rfl fun hc => ?_
  apply ct_seq
  apply ct_region
  apply seq_plain; exact do_assign rfl; exact rfl
  apply seq_nil
  apply ct_seq
  apply ct_seq
  apply ct_region
  apply seq_plain; exact do_move rfl; exact rfl
  apply seq_plain; exact do_eql rfl rfl trivial rfl; exact rfl
  apply seq_nil
  refine ct_cond_f rfl rfl ?_
  apply ct_skip
  apply ct_seq
  apply ct_region
  apply seq_newS; exact do_buildSlice rfl rfl rfl rfl rfl rfl rfl; exact rfl
  apply seq_plain; exact do_move rfl; exact rfl
  apply seq_newS; exact do_appendE rfl rfl rfl rfl rfl rfl (ext_get_old hc hg) (slAt_allM hw) (ext_get_new rfl) (Nat.le_trans (Nat.mul_le_mul_right _ (by omega : 2 * (0 + l.length) + 1000 ≤ 3000000000)) (Nat.le_of_ble_eq_true rfl)) (Nat.ne_of_beq_eq_false rfl) (Nat.ne_of_beq_eq_false rfl) h0; exact rfl
  apply seq_plain; exact do_assign rfl; exact rfl
  apply seq_nil
  apply ct_ret
  exact fin_one (k := 1) hc rfl rfl (mt_flat _) (by simp [packA, renV, renOf_one ⟨own_iff.1 (nb_own 1), nb_ge 1⟩]) ⟨rfl, rfl⟩
/-- matches without a team -/
def restM (g : Int) (l : List Ma) : List Ma := l.filter fun m => !playsM [g] m
set_option maxHeartbeats 4000000 in
theorem without_c {H : AHeap} {n : Nat} {q a : Option Addr} {c d : Nat} {l : List Ma} {g : Int} (hs : SlAt H 5 mt q l) (hk : SlAt H 1 i1 a [g]) (hG : H.get 1 = some (.cells cs0 0 false true)) (hchk : chkM n l = 0) (hne : l ≠ []) (hgn : 0 ≤ g ∧ g < n) (hd1 : 1 ≤ d) :
    Ret Tryd.prog 8 [I n, .slice q l.length c, .slice a 1 d] H (.tuple ⟨[.slice (some ⟨H.fresh, 0, none⟩) (restM g l).length l.length, I 0]⟩) (H.add (mtB (restM g l ++ List.replicate (l.length - (restM g l).length) zeroM) 5 true)) := by
  have hl6 := (top_ok (chkM_zero.1 hchk).1).2
  refine fn_start Tryd.func8 rfl rfl rfl fun hc => ?_
  apply ct_seq
  apply ct_region
  apply seq_newP; exact do_box rfl rfl rfl; exact rfl
  apply seq_plain; exact do_assign rfl; exact rfl
  apply seq_plain; exact do_assign rfl; exact rfl
  apply seq_nil
  apply ct_seq
  apply ct_region
  apply seq_plain; exact do_move rfl; exact rfl
  apply seq_plain; exact do_move rfl; exact rfl
  apply seq_call (ht := rfl); exact checkMatches82 (hs.ext (ext_Ext hc)) (by omega) (ext_get_old hc hG); exact rfl
  rw [hchk]
  apply seq_plain; exact do_assign rfl; exact rfl
  apply seq_nil
  apply ct_seq
  apply ct_seq
  apply ct_region
  apply seq_plain; exact do_load rfl (by exact ext_get_new rfl) rfl (by exact rfl); exact rfl
  apply seq_plain; exact do_lenS rfl rfl rfl; exact rfl
  apply seq_plain; exact do_move rfl; exact rfl
  apply seq_nil
  apply ct_block
  apply ct_loop
  refine lt_meas (α := Nat × List (Option ABlk)) (fun a' => [(0, I n), (1, .slice q l.length c), (5, .pointer (some ⟨nb H 0, 0, none⟩)), (8, I 0), (14, .slice a 1 d), (15, I 1), (16, I a'.1)]) (fun a' => ext H H.fresh a'.2) (fun a' => a'.1 ≤ 1 ∧ a'.2[0]? = some (some (.cells [.slice a 1 d] 0 false false)) ∧ (a'.1 = 0 → a'.2 = [some (.cells [.slice a 1 d] 0 false false)])) (fun a' => 1 - a'.1) (fun a' ha ih2 => ?_) (0, [some (.cells [.slice a 1 d] 0 false false)]) ⟨by simp, rfl, fun _ => rfl⟩ (by repeat (first | exact sub_nil | apply sub_cons rfl)) (.refl _)
  obtain ⟨i, L⟩ := a'
  obtain ⟨hi, hL0, hLe⟩ := ha
  simp only at hi hL0 hLe ih2 ⊢
  have ih := fun i' L' a1 a2 a3 a4 => ih2 (i', L') a1 ⟨a2, a3, a4⟩
  simp only at ih
  clear ih2
  apply ct_seq
  apply ct_region
  apply seq_plain; exact do_binInt rfl rfl rfl trivial; exact rfl
  apply seq_nil
  apply ct_seq
  refine ct_cond rfl (fun h1 => ?_) (fun h1 => ?_)
  · have h1 : i = 0 := by simp at h1; omega
    have hil : i < [g].length := by rw [h1]; simp
    have e1 : [g][i] = g := by simp [h1]
    obtain ⟨b, o, cs, z, s, ro, rfl, hg, hw⟩ := hk.out (by simp)
    apply ct_skip
    apply ct_seq
    apply ct_block
    apply ct_seq
    apply ct_region
    apply seq_plain; exact do_move rfl; exact rfl
    apply seq_plain; exact do_indexAddrS rfl rfl rfl (by exact idx_nat (by omega)); exact rfl
    apply seq_plain; exact do_load rfl (by exact ext_get_old (by assumption) (by assumption)) rfl (by exact pt_sl0 (by assumption) (by omega)); exact rfl
    apply seq_plain; exact do_assign rfl; exact rfl
    apply seq_plain; exact do_assign rfl; exact rfl
    apply seq_nil
    apply ct_draw (by assumption); decide +kernel
    apply sd_plain (hfree := rfl); intro _; exact do_move rfl; exact rfl
    apply sd_plain (hfree := rfl); intro _; exact do_move rfl; exact rfl
    apply sd_plain (hfree := rfl); intro _; exact do_move rfl; exact rfl
    apply sd_newS (hfree := rfl); exact do_buildSlice rfl rfl rfl rfl rfl rfl rfl; exact rfl
    rw [e1]
    have ek : [g].any (unknownL n) = false := by simp [unknownL]; omega
    subst h1
    obtain rfl := hLe rfl
    clear hLe
    apply sd_callM (ht := rfl) (hw := rfl); decide +kernel; exact known125 (l := [_]) (slAt_map (ext_get_new rfl)) (by simp); exact rfl
    apply sd_look (hfree := rfl); exact do_load rfl (by exact ext_get_new rfl) rfl (by exact rfl); exact rfl
    apply sd_plain (hfree := rfl); intro _; exact do_move rfl; exact rfl
    apply sd_look (hfree := rfl); exact do_sliceTo rfl rfl rfl (by intro e; cases e) (by rintro _ ⟨⟩; rfl) (by omega); exact rfl
    apply sd_plain (hfree := rfl); intro _; exact do_move rfl; exact rfl
    apply sd_call (ht := rfl); exact contains_c (l := []) .nil (by simp); exact rfl
    apply sd_call (ht := rfl); exact when85; exact rfl
    apply sd_newS (hfree := rfl); exact do_buildSlice rfl rfl rfl rfl rfl rfl rfl; exact rfl
    apply sd_callM (ht := rfl) (hw := rfl); decide +kernel; exact first84 (l := [_, _, _]) (slAt_map (ext_get_new rfl)) (by simp); exact rfl
    apply sd_plain (hfree := rfl); intro _; exact do_assign rfl; exact rfl
    apply sd_nil
    apply ct_region
    apply seq_plain; exact do_succ rfl (by omega); exact rfl
    apply seq_plain; exact do_move rfl; exact rfl
    apply seq_nil
    rw [ek]
    exact lt_to (by repeat (first | exact sub_nil | apply sub_cons rfl)) (.refl _) (ih 1 _ (by omega) (by omega) rfl (fun h => by cases h))
  · have h1 : i = 1 := by simp at h1; omega
    subst h1
    apply ct_exit
    apply exit_eq; exact rfl
    apply ct_seq
    apply ct_seq
    apply ct_region
    apply seq_plain; exact do_move rfl; exact rfl
    apply seq_plain; exact do_binInt rfl rfl rfl trivial; exact rfl
    apply seq_nil
    refine ct_cond_f rfl rfl ?_
    apply ct_skip
    apply ct_seq
    apply ct_region
    apply seq_plain; exact do_move rfl; exact rfl
    apply seq_call (ht := rfl); exact cloneM_c (hs.ext (ext_Ext hc)) (by omega) hne; exact rfl
    apply seq_plain; exact do_makeFunc rfl rfl; exact rfl
    rw [ext_add, ext_fresh]
    obtain ⟨b0, o, cs, z, s, ro, rfl, hg0, hw⟩ := hk.out (by simp)
    have hLl : 0 < L.length := (List.getElem?_eq_some_iff.1 hL0).1
    have hb1 : b0 ≠ nb H L.length := fun e => by
      have := hc (nb H L.length) (own_iff.1 (nb_own _)) (nb_ge _)
      rw [← e, hg0] at this; cases this
    obtain ⟨k, hk2, dl⟩ := deleteFunc_c (H := ext H H.fresh (L ++ [some (mtB l 5 true)])) (b := nb H L.length) (l := l) (p := playsM [g]) (g := 35) (caps := [.pointer (some ⟨nb H 0, 0, none⟩)]) (nb_own _) (by rw [ext_fresh]; simp only [nb]; simp) (ext_get_new List.getElem?_concat_length) (by omega) (fun x hx H' h' =>
      without1_c (c := d) (ks := [g]) (h' _ _ (by simp only [ne_eq, nb_inj]; omega) (ext_get_new (getApp hL0))) ⟨fun _ => ⟨b0, o, cs, z, s, ro, rfl, h' _ _ hb1 (ext_get_old hc hg0), hw⟩⟩ (by simp))
    subst hk2
    refine seq_callP (k := L.length) hc (by simp) rfl dl rfl ?_
    rw [set_mid rfl]
    apply seq_plain; exact do_assign rfl; exact rfl
    apply seq_plain; exact do_assign rfl; exact rfl
    apply seq_nil
    apply ct_ret
    exact fin_one (k := L.length) hc rfl List.getElem?_concat_length (mt_flat _) (by simp [packA, renV, renL, renOf_one ⟨own_iff.1 (nb_own L.length), nb_ge L.length⟩, restM]) ⟨rfl, rfl⟩
end Go.Proofs.YtppflopinmkpgaaDoor
