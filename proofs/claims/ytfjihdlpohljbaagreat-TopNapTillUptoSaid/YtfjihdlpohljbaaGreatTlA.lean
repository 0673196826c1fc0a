/- TopNapTill: the law's own walk (seat of TopNapTill, TopNapQueue, TopNapUsed). -/
import Derived.Test.YtfjihdlpohljbaaGreatNpA
import Derived.Test.YtfjihdlpohljbaaGreatBcD
import Derived.Test.YtfjihdlpohljbaaGreatHaF
import Derived.Test.YtfjihdlpohljbaaGreatBgH
import Derived.Test.YtfjihdlpohljbaaGreatOpnE
import Derived.Test.YtfjihdlpohljbaaGreatSvC
noncomputable section
namespace Go.Proofs.YtfjihdlpohljbaaGreat
open Go Go.Den
set_option maxRecDepth 100000

theorem lst_low {α : Type} {H : AHeap} {L : List (Option ABlk)} {m k0 : Nat} {f : α → List Value} {v : Value} {l : List α} (h : Lst H L m f k0 v l) (hf : ∀ x, (f x).length = m) : ∃ p, v = .slice p l.length l.length ∧ LowS p l.length l.length ∧ ∀ (L' : List (Option ABlk)) (lo : Nat), Keeps L L' → SlAt (ext H lo L') m f p l := by
  rcases h.out with ⟨rfl, rfl⟩ | ⟨hne, k, h1, rfl, h2⟩
  · exact ⟨none, rfl, ⟨Nat.le_refl _, fun _ => ⟨rfl, rfl⟩, fun _ e => (by cases e)⟩, fun _ _ _ => .nil⟩
  · exact ⟨_, rfl, ⟨Nat.le_refl _, fun e => (by cases e), fun a e => (by cases e; rfl)⟩, fun L' lo hk => slAt_flat hf (ext_get_new (hk _ _ h2))⟩
/-- an input that is looked at -/
structure TlIn (r : List Ra) (dep note : Int) (l : List Bk) (n : Int) : Prop where
  rl : r.length ≤ 100
  chg : chargeE r dep note = 0
  len : l.length ≤ 10
  bks : booksE l = 0
  n1 : 1 ≤ n
  n16 : n ≤ 16
theorem TlIn.bk {r : List Ra} {dep note : Int} {l : List Bk} {n : Int} (h : TlIn r dep note l n) {i : Nat} (hi : i < l.length) : bookE l[i] = 0 ∧ 0 ≤ l[i].frm ∧ l[i].frm < l[i].to ∧ l[i].to ≤ 99999 := by
  have hb := h.bks
  unfold booksE at hb
  rw [if_neg (by have := h.len; omega)] at hb
  have h1 : bookE l[i] = 0 := restG_zero (err := fun _ x => bookE x) hb hi
  have h2 := bookE_ok h1
  exact ⟨h1, h2.f0, h2.lt, h2.t1⟩
theorem TlIn.ok {r : List Ra} {dep note : Int} {l : List Bk} {n : Int} (h : TlIn r dep note l n) {i : Nat} (hi : ∀ b ∈ l.take i, b.to ≤ 400) : TillOk r dep (l.take i) := by
  obtain ⟨c1, c2, c3, _, _⟩ := charge_ok h.chg
  refine ⟨c1, c2, c3, ?_, fun b hb => ?_⟩
  · have := h.len
    rw [List.length_take]; omega
  · obtain ⟨k, hk, rfl⟩ := List.getElem_of_mem (List.mem_of_mem_take hb)
    obtain ⟨_, g1, g2, _⟩ := h.bk hk
    exact ⟨g1, g2, hi _ hb⟩
theorem TlIn.sum {r : List Ra} {dep note : Int} {l : List Bk} {n : Int} (h : TlIn r dep note l n) {i : Nat} (hl : i ≤ l.length) (hi : ∀ b ∈ l.take i, b.to ≤ 400) : 0 ≤ tillS r (l.take i) ∧ tillS r (l.take i) ≤ 400000000 := by
  have h1 := (h.ok hi).sum i (by rw [List.length_take]; omega)
  rw [List.take_take, Nat.min_self] at h1
  have := h.len
  omega
theorem till_trial {l : List Po} (h : possE l = 0) (h40 : l.length ≤ 40) : (trialL l).length ≤ 80 ∧ ((trialL l).map (·.2)).sum = 0 ∧ ∀ i, i ≤ (trialL l).length → -(300000000000 * (i : Int)) ≤ (((trialL l).take i).map (·.2)).sum ∧ (((trialL l).take i).map (·.2)).sum ≤ 300000000000 * (i : Int) := by
  obtain ⟨h256, ha⟩ := poss_ok h
  have one : ∀ i (hi : i < (trialL l).length), -300000000000 ≤ (trialL l)[i].2 ∧ (trialL l)[i].2 ≤ 300000000000 := fun i hi => by
    obtain ⟨hi2, e⟩ : ∃ hi2 : i < (accB l).length, (trialL l)[i] = (strB (accB l)[i], balI l (strB (accB l)[i])) := ⟨by simpa [trialL] using hi, by simp [trialL]⟩
    rw [e]
    exact balI_small ha h256 _
  refine ⟨?_, trial_zero l, fun i => ?_⟩
  · have := accM_len (l := l) l.length (Nat.le_refl _)
    rw [List.take_length] at this
    rw [trial_eq, List.length_map, srtN_len]
    unfold accK
    rw [List.length_map]
    omega
  · induction i with
    | zero => intro _; simp
    | succ i ih =>
      intro hi
      have h1 := ih (by omega)
      have h2 := one i (by omega)
      rw [take_snoc (by omega), List.map_append, List.sum_append]
      simp only [List.map_cons, List.map_nil, List.sum_cons, List.sum_nil]
      omega
theorem price_in {r : List Ra} (h : RatesOk r) (hE : ratesE r = 0) {a b : Int} (h0 : 0 ≤ a) (hab : a ≤ b) (hb : b ≤ 400) : spanE r a b = 0 ∧ priceV r a b = priceP r a.toNat b.toNat ∧ priceE r a b = 0 ∧ 0 ≤ priceP r a.toNat b.toNat ∧ priceP r a.toNat b.toNat ≤ 40000000 := by
  have e : spanE r a b = 0 := by
    unfold spanE
    have e1 : outL a 0 99999 = false := by unfold outL; exact decide_eq_false (by omega)
    have e2 : outL b 0 99999 = false := by unfold outL; exact decide_eq_false (by omega)
    have e3 : decide (b < a) = false := decide_eq_false (by omega)
    rw [hE, e1, e2, e3]; rfl
  have hp := priceP_bd h (a := a.toNat) (b := b.toNat) (by omega)
  have hp2 : priceP r a.toNat b.toNat ≤ 40000000 := by omega
  refine ⟨e, ?_, ?_, hp.1, hp2⟩
  · unfold priceV
    rw [if_neg (by rw [e]; simp), if_neg (by omega)]
  · unfold priceE
    rw [if_neg (by rw [e]; simp), if_neg (by omega)]
theorem repl_int : ∀ n, repl [I 0] n = (List.replicate n (0 : Int)).map I
  | 0 => rfl
  | n + 1 => by simp [repl, repl_int n, List.replicate_succ]
theorem stepS_one {p : Nat} {f g : Nat → Int} : stepS p p f g = (List.range p).map f := by
  refine List.ext_getElem (by simp [stepS]) fun k h1 h2 => ?_
  have : k < p := by simpa [stepS] using h1
  simp [stepS, this]
theorem charge_rates {l : List Ra} {dep note : Int} (h : chargeE l dep note = 0) : ratesE l = 0 := firstL_allZ h _ (List.mem_cons_self ..)
set_option maxHeartbeats 16000000 in
theorem till_w {H : AHeap} {q qr : Option Addr} {c cr : Nat} {r : List Ra} {l : List Bk} {dep note n : Int} (haw : ∀ h, Ext H h → Ret Tryz.prog 10 [] h (.bool true) h) (hr : SlAt H 3 ra qr r) (hlow : LowS qr cr r.length) (hm : r.length ≤ 1048576) (hs : SlAt H 4 bk q l) (hn : l.length ≤ 1048576) :
    Ret Tryz.prog 3 [chV qr r.length cr dep note, .slice q l.length c, I n] H (.bool true) H := by
  refine fn_start Tryz.func3 rfl rfl rfl fun hc => ?_
  have cO := fun L => nown_c (H := ext H H.fresh L) (q := none) (c := 0) (d := c) (t := []) .nil (by simp) (hs.ext (ext_Ext hc)) (by omega)
  have e0 : lstL 2 tb ([] : List Tb) = [] := rfl
  simp only [lstH_ext, ext_fresh, e0, List.append_nil] at cO
  apply ct_seq
  apply ct_region
  apply seq_newP; exact do_box rfl rfl rfl; exact rfl
  apply seq_plain; exact do_assign rfl; exact rfl
  apply seq_nil
  apply ct_seq
  apply ct_region
  apply seq_plain; exact do_move rfl; exact rfl
  apply seq_call (ht := rfl); exact cO _; exact rfl
  obtain ⟨M, hM⟩ : ∃ M : List (Option ABlk), M = [] ++ [some (.cells (chV qr r.length cr dep note).cells.toList 0 false false)] := ⟨_, rfl⟩
  have f0 : M[0]? = some (some (.cells [.slice qr r.length cr, I dep, I note] 0 false false)) := by rw [hM]; rfl
  rw [← hM]
  clear hM cO
  obtain ⟨u, hu⟩ : ∃ u, u = lstP (nb H M.length) l := ⟨_, rfl⟩
  obtain ⟨b0, hb0⟩ : ∃ b0, b0 = nb H 0 := ⟨_, rfl⟩
  have s1 : SlAt (ext H H.fresh (M ++ lstL 4 bk l)) 4 bk u l := by rw [hu]; exact lst_slAt bk_len
  have f0 := ext_get_new (H := H) (lo := H.fresh) (getApp (m := lstL 4 bk l) f0)
  rw [← hb0] at f0
  refine seqL_to (l' := [(1, .slice q l.length c), (2, I n), (3, .pointer (some ⟨b0, 0, none⟩)), (43, .tuple ⟨[.slice none 0 0, .slice u l.length l.length]⟩)]) (by rw [hu, hb0]; (repeat (first | exact sub_nil | apply sub_cons rfl))) ext_base (by simp) ?_
  clear hu hb0
  obtain ⟨h, hh⟩ : ∃ h, h = ext H H.fresh (M ++ lstL 4 bk l) := ⟨_, rfl⟩
  have hc' : Closed h := by rw [hh]; exact ext_closed hc
  have hE : Ext H h := by rw [hh]; exact ext_Ext hc
  rw [← hh] at s1 f0 ⊢
  clear hh
  have hre := hr.ext hE
  have hse := hs.ext hE
  refine seq_anyLo fun lo => ?_
  apply seq_plain; exact do_move rfl; exact rfl
  apply seq_plain; exact do_extract rfl rfl; exact rfl
  apply seq_plain; exact do_extract rfl rfl; exact rfl
  apply seq_plain; exact do_assign rfl; exact rfl
  apply seq_plain; exact do_assign rfl; exact rfl
  apply seq_nil
  apply ct_seq
  apply ct_region
  apply seq_plain; exact do_assign rfl; exact rfl
  apply seq_nil
  apply ct_seq
  apply ct_seq
  apply ct_region
  apply seq_plain; exact do_fieldAddr rfl rfl; exact rfl
  apply seq_plain; exact do_load rfl (by exact ext_get_old (by assumption) (by assumption)) rfl (by exact rfl); exact rfl
  apply seq_plain; exact do_lenS rfl rfl rfl; exact rfl
  apply seq_plain; exact do_move rfl; exact rfl
  apply seq_nil
  apply ct_block
  apply ct_loop
  refine lt_meas (α := Nat × Value × List (Option ABlk)) (fun a => [(1, .slice q l.length c), (2, I n), (3, .pointer (some ⟨b0, 0, none⟩)), (8, .slice u l.length l.length), (9, a.2.1), (47, .slice qr r.length cr), (48, I r.length), (49, I a.1)]) (fun a => ext h lo a.2.2) (fun a => a.1 ≤ r.length ∧ Lst h a.2.2 3 ra 0 a.2.1 (r.take a.1)) (fun a => r.length - a.1) (fun a ha ih => ?_) (0, .slice none 0 0, []) ⟨by simp, .nil⟩ (by repeat (first | exact sub_nil | apply sub_cons rfl)) (.refl _)
  obtain ⟨i, v, L⟩ := a
  obtain ⟨hi, hv⟩ := ha
  simp only at hi hv ih ⊢
  have ih' := fun i' v' L' a1 a2 a3 => ih (i', v', L') a1 ⟨a2, a3⟩
  simp only at ih'
  clear ih
  apply ct_seq
  apply ct_region
  apply seq_plain; exact do_binInt rfl rfl rfl trivial; exact rfl
  apply seq_nil
  apply ct_seq
  refine ct_cond rfl (fun h1 => ?_) (fun h1 => ?_)
  · simp only [decide_eq_true_eq, Int.ofNat_lt] at h1
    obtain ⟨b, o, cs, z, s, ro, rfl, hg, hw⟩ := hre.out (by intro e; rw [e] at h1; simp at h1)
    apply ct_skip
    apply ct_seq
    apply ct_block
    apply ct_seq
    apply ct_region
    apply seq_plain; exact do_indexAddrS rfl rfl rfl (by exact idx_nat (by omega)); exact rfl
    apply seq_plain; exact do_load rfl (by exact ext_get_old (by assumption) (by assumption)) rfl (by exact pt_sl (by assumption) (by omega)); exact rfl
    apply seq_newP; exact do_alloc rfl rfl; exact rfl
    apply seq_putC (hc := by assumption); rotate_left; exact do_store rfl rfl (by exact ext_get_new List.getElem?_concat_length) rfl rfl (nb_own _); rotate_left; exact (by simp)
    apply ct_region
    apply seq_plain; exact do_move rfl; exact rfl
    apply seq_plain; exact do_load rfl (by exact ext_get_new getSetLast) rfl (by exact rfl); exact rfl
    apply seq_newS; exact do_buildSlice rfl rfl rfl rfl rfl rfl rfl; exact rfl
    rw [set_mid rfl]
    skip
    refine seq_grow (xs := [r[i]]) hc' ((hv.app _).app _) (by omega) (fun _ => rfl) (fun _ => rfl) rfl rfl rfl rfl rfl rfl (ext_get_new List.getElem?_concat_length) rfl (by simp) ?_ (Nat.ne_of_beq_eq_false rfl) (Nat.ne_of_beq_eq_false rfl) rfl (fun v' L3 hv' hst3 hlen3 => ?_)
    · exact Nat.le_trans (Nat.mul_le_mul_right _ (by simp only [List.length_cons, List.length_nil, List.length_take]; omega : _ ≤ 3000000000)) (Nat.le_of_ble_eq_true rfl)
    apply seq_plain; exact do_assign rfl; exact rfl
    apply seq_nil
    apply ct_region
    apply seq_plain; exact do_succ rfl (by omega); exact rfl
    apply seq_plain; exact do_move rfl; exact rfl
    apply seq_nil
    refine lt_sub (by repeat (first | exact sub_nil | apply sub_cons rfl)) (ih' (i + 1) v' L3 (by omega) (by omega) ?_)
    rw [take_snoc h1]; exact hv'
  have h1 : i = r.length := by simp at h1; omega
  subst h1
  rw [List.take_length] at hv
  clear ih' hi
  obtain ⟨w, rfl, sR⟩ := hv.slAll ra_len
  have sR := sR L lo (.refl _)
  clear hv
  have aw := fun h2 (hE2 : Ext h h2) => haw _ (hE.trans hE2)
  obtain ⟨T, hT⟩ : ∃ T, T = ((((((decide ((r.length : Int) > 100) || (chargeE r dep note != 0)) || decide ((l.length : Int) > 10)) || !shortH [] l []) || (booksE l != 0)) || decide (n < 1)) || decide (n > 16)) := ⟨_, rfl⟩
  apply ct_exit
  apply exit_eq; exact rfl
  apply ct_seq
  apply ct_seq
  apply ct_region
  apply seq_plain; exact do_fieldAddr rfl rfl; exact rfl
  apply seq_plain; exact do_load rfl (by exact ext_get_old (by assumption) (by assumption)) rfl (by exact rfl); exact rfl
  apply seq_plain; exact do_lenS rfl rfl rfl; exact rfl
  apply seq_plain; exact do_binInt rfl rfl rfl trivial; exact rfl
  apply seq_plain; exact do_move rfl; exact rfl
  refine seq_J [(1, .slice q l.length c), (2, I n), (3, .pointer (some ⟨b0, 0, none⟩)), (94, .bool T)] (ds := []) (h := ext h lo L) ?_ ?_
  · skip
    refine seq_gsplit rfl rfl (fun u1 => ?_) (fun u1 => ?_)
    · have u1 : decide ((r.length : Int) > 100) = true := u1
      have e : T = true := by rw [hT, u1]; rfl
      rw [e]
      apply seq_passed (hd := rfl) (hl := rfl) (hb := rfl); exact rfl
      apply seq_passed (hd := rfl) (hl := rfl) (hb := rfl); exact rfl
      apply seq_passed (hd := rfl) (hl := rfl) (hb := rfl); exact rfl
      apply seq_passed (hd := rfl) (hl := rfl) (hb := rfl); exact rfl
      apply seq_passed (hd := rfl) (hl := rfl) (hb := rfl); exact rfl
      apply seq_passed (hd := rfl) (hl := rfl) (hb := rfl); exact rfl
      apply seq_passed (hd := rfl) (hl := rfl) (hb := rfl); exact rfl
      apply seq_passed (hd := rfl) (hl := rfl) (hb := rfl); exact rfl
      apply seq_plain; exact do_pick_t rfl rfl; exact rfl
      apply seq_plain; exact do_move rfl; exact rfl
      apply seq_passed (hd := rfl) (hl := rfl) (hb := rfl); exact rfl
      apply seq_passed (hd := rfl) (hl := rfl) (hb := rfl); exact rfl
      apply seq_passed (hd := rfl) (hl := rfl) (hb := rfl); exact rfl
      apply seq_plain; exact do_pick_t rfl rfl; exact rfl
      apply seq_plain; exact do_move rfl; exact rfl
      apply seq_passed (hd := rfl) (hl := rfl) (hb := rfl); exact rfl
      apply seq_passed (hd := rfl) (hl := rfl) (hb := rfl); exact rfl
      apply seq_passed (hd := rfl) (hl := rfl) (hb := rfl); exact rfl
      apply seq_plain; exact do_pick_t rfl rfl; exact rfl
      apply seq_plain; exact do_move rfl; exact rfl
      apply seq_passed (hd := rfl) (hl := rfl) (hb := rfl); exact rfl
      apply seq_passed (hd := rfl) (hl := rfl) (hb := rfl); exact rfl
      apply seq_passed (hd := rfl) (hl := rfl) (hb := rfl); exact rfl
      apply seq_plain; exact do_pick_t rfl rfl; exact rfl
      apply seq_plain; exact do_move rfl; exact rfl
      apply seq_passed (hd := rfl) (hl := rfl) (hb := rfl); exact rfl
      apply seq_passed (hd := rfl) (hl := rfl) (hb := rfl); exact rfl
      apply seq_plain; exact do_pick_t rfl rfl; exact rfl
      apply seq_plain; exact do_move rfl; exact rfl
      apply seq_passed (hd := rfl) (hl := rfl) (hb := rfl); exact rfl
      apply seq_passed (hd := rfl) (hl := rfl) (hb := rfl); exact rfl
      apply seq_plain; exact do_pick_t rfl rfl; exact rfl
      apply seq_nil
      exact jp_of (by repeat (first | exact sub_nil | apply sub_cons rfl))
    have u1 : decide ((r.length : Int) > 100) = false := u1
    apply seq_guard (hd := rfl) (hl := rfl); exact do_move rfl; exact rfl
    apply seq_guard (hd := rfl) (hl := rfl); exact do_fieldAddr rfl rfl; exact rfl
    apply seq_guard (hd := rfl) (hl := rfl); exact do_load rfl (by exact ext_get_old (by assumption) (by assumption)) rfl (by exact rfl); exact rfl
    apply seq_guard (hd := rfl) (hl := rfl); exact do_fieldAddr rfl rfl; exact rfl
    apply seq_guard (hd := rfl) (hl := rfl); exact do_load rfl (by exact ext_get_old (by assumption) (by assumption)) rfl (by exact rfl); exact rfl
    apply seq_guard (hd := rfl) (hl := rfl); exact do_build rfl rfl rfl rfl; exact rfl
    apply seq_gcall (hg := rfl) (hl := rfl) (ht := rfl); exact refCharge_c (c := r.length) (dep := dep) (note := note) sR (by omega); exact rfl
    apply seq_guard (hd := rfl) (hl := rfl); exact do_binInt rfl rfl rfl trivial; exact rfl
    apply seq_plain; exact do_pick_f rfl rfl; exact rfl
    apply seq_plain; exact do_move rfl; exact rfl
    refine seq_gsplit rfl rfl (fun u2 => ?_) (fun u2 => ?_)
    · have u2 : (chargeE r dep note != 0) = true := u2
      have e : T = true := by rw [hT, u1, u2]; rfl
      rw [e]
      apply seq_passed (hd := rfl) (hl := rfl) (hb := rfl); exact rfl
      apply seq_passed (hd := rfl) (hl := rfl) (hb := rfl); exact rfl
      apply seq_passed (hd := rfl) (hl := rfl) (hb := rfl); exact rfl
      apply seq_plain; exact do_pick_t rfl rfl; exact rfl
      apply seq_plain; exact do_move rfl; exact rfl
      apply seq_passed (hd := rfl) (hl := rfl) (hb := rfl); exact rfl
      apply seq_passed (hd := rfl) (hl := rfl) (hb := rfl); exact rfl
      apply seq_passed (hd := rfl) (hl := rfl) (hb := rfl); exact rfl
      apply seq_plain; exact do_pick_t rfl rfl; exact rfl
      apply seq_plain; exact do_move rfl; exact rfl
      apply seq_passed (hd := rfl) (hl := rfl) (hb := rfl); exact rfl
      apply seq_passed (hd := rfl) (hl := rfl) (hb := rfl); exact rfl
      apply seq_passed (hd := rfl) (hl := rfl) (hb := rfl); exact rfl
      apply seq_plain; exact do_pick_t rfl rfl; exact rfl
      apply seq_plain; exact do_move rfl; exact rfl
      apply seq_passed (hd := rfl) (hl := rfl) (hb := rfl); exact rfl
      apply seq_passed (hd := rfl) (hl := rfl) (hb := rfl); exact rfl
      apply seq_plain; exact do_pick_t rfl rfl; exact rfl
      apply seq_plain; exact do_move rfl; exact rfl
      apply seq_passed (hd := rfl) (hl := rfl) (hb := rfl); exact rfl
      apply seq_passed (hd := rfl) (hl := rfl) (hb := rfl); exact rfl
      apply seq_plain; exact do_pick_t rfl rfl; exact rfl
      apply seq_nil
      exact jp_of (by repeat (first | exact sub_nil | apply sub_cons rfl))
    have u2 : (chargeE r dep note != 0) = false := u2
    apply seq_guard (hd := rfl) (hl := rfl); exact do_move rfl; exact rfl
    apply seq_guard (hd := rfl) (hl := rfl); exact do_lenS rfl rfl rfl; exact rfl
    apply seq_guard (hd := rfl) (hl := rfl); exact do_binInt rfl rfl rfl trivial; exact rfl
    apply seq_plain; exact do_pick_f rfl rfl; exact rfl
    apply seq_plain; exact do_move rfl; exact rfl
    refine seq_gsplit rfl rfl (fun u3 => ?_) (fun u3 => ?_)
    · have u3 : decide ((l.length : Int) > 10) = true := u3
      have e : T = true := by rw [hT, u1, u2, u3]; rfl
      rw [e]
      apply seq_passed (hd := rfl) (hl := rfl) (hb := rfl); exact rfl
      apply seq_passed (hd := rfl) (hl := rfl) (hb := rfl); exact rfl
      apply seq_passed (hd := rfl) (hl := rfl) (hb := rfl); exact rfl
      apply seq_plain; exact do_pick_t rfl rfl; exact rfl
      apply seq_plain; exact do_move rfl; exact rfl
      apply seq_passed (hd := rfl) (hl := rfl) (hb := rfl); exact rfl
      apply seq_passed (hd := rfl) (hl := rfl) (hb := rfl); exact rfl
      apply seq_passed (hd := rfl) (hl := rfl) (hb := rfl); exact rfl
      apply seq_plain; exact do_pick_t rfl rfl; exact rfl
      apply seq_plain; exact do_move rfl; exact rfl
      apply seq_passed (hd := rfl) (hl := rfl) (hb := rfl); exact rfl
      apply seq_passed (hd := rfl) (hl := rfl) (hb := rfl); exact rfl
      apply seq_plain; exact do_pick_t rfl rfl; exact rfl
      apply seq_plain; exact do_move rfl; exact rfl
      apply seq_passed (hd := rfl) (hl := rfl) (hb := rfl); exact rfl
      apply seq_passed (hd := rfl) (hl := rfl) (hb := rfl); exact rfl
      apply seq_plain; exact do_pick_t rfl rfl; exact rfl
      apply seq_nil
      exact jp_of (by repeat (first | exact sub_nil | apply sub_cons rfl))
    have u3 : decide ((l.length : Int) > 10) = false := u3
    apply seq_guard (hd := rfl) (hl := rfl); exact do_move rfl; exact rfl
    apply seq_gcall (hg := rfl) (hl := rfl) (ht := rfl); exact short_c (t := []) (r := []) (c := 0) (d := l.length) (e := 0) (SlAt.nil (p := none)) (by simp) (s1.ext (ext_Ext hc')) (by omega) (SlAt.nil (p := none)) (by simp); exact rfl
    apply seq_guard (hd := rfl) (hl := rfl); exact do_unOp rfl rfl; exact rfl
    apply seq_plain; exact do_pick_f rfl rfl; exact rfl
    apply seq_plain; exact do_move rfl; exact rfl
    refine seq_gsplit rfl rfl (fun u4 => ?_) (fun u4 => ?_)
    · have u4 : (!shortH [] l []) = true := u4
      have e : T = true := by rw [hT, u1, u2, u3, u4]; rfl
      rw [e]
      apply seq_passed (hd := rfl) (hl := rfl) (hb := rfl); exact rfl
      apply seq_passed (hd := rfl) (hl := rfl) (hb := rfl); exact rfl
      apply seq_passed (hd := rfl) (hl := rfl) (hb := rfl); exact rfl
      apply seq_plain; exact do_pick_t rfl rfl; exact rfl
      apply seq_plain; exact do_move rfl; exact rfl
      apply seq_passed (hd := rfl) (hl := rfl) (hb := rfl); exact rfl
      apply seq_passed (hd := rfl) (hl := rfl) (hb := rfl); exact rfl
      apply seq_plain; exact do_pick_t rfl rfl; exact rfl
      apply seq_plain; exact do_move rfl; exact rfl
      apply seq_passed (hd := rfl) (hl := rfl) (hb := rfl); exact rfl
      apply seq_passed (hd := rfl) (hl := rfl) (hb := rfl); exact rfl
      apply seq_plain; exact do_pick_t rfl rfl; exact rfl
      apply seq_nil
      exact jp_of (by repeat (first | exact sub_nil | apply sub_cons rfl))
    have u4 : (!shortH [] l []) = false := u4
    apply seq_guard (hd := rfl) (hl := rfl); exact do_move rfl; exact rfl
    apply seq_gcall (hg := rfl) (hl := rfl) (ht := rfl); exact refBookings_c (s1.ext (ext_Ext hc')) (by omega); exact rfl
    apply seq_guard (hd := rfl) (hl := rfl); exact do_binInt rfl rfl rfl trivial; exact rfl
    apply seq_plain; exact do_pick_f rfl rfl; exact rfl
    apply seq_plain; exact do_move rfl; exact rfl
    refine seq_gsplit rfl rfl (fun u5 => ?_) (fun u5 => ?_)
    · have u5 : (booksE l != 0) = true := u5
      have e : T = true := by rw [hT, u1, u2, u3, u4, u5]; rfl
      rw [e]
      apply seq_passed (hd := rfl) (hl := rfl) (hb := rfl); exact rfl
      apply seq_passed (hd := rfl) (hl := rfl) (hb := rfl); exact rfl
      apply seq_plain; exact do_pick_t rfl rfl; exact rfl
      apply seq_plain; exact do_move rfl; exact rfl
      apply seq_passed (hd := rfl) (hl := rfl) (hb := rfl); exact rfl
      apply seq_passed (hd := rfl) (hl := rfl) (hb := rfl); exact rfl
      apply seq_plain; exact do_pick_t rfl rfl; exact rfl
      apply seq_nil
      exact jp_of (by repeat (first | exact sub_nil | apply sub_cons rfl))
    have u5 : (booksE l != 0) = false := u5
    apply seq_guard (hd := rfl) (hl := rfl); exact do_move rfl; exact rfl
    apply seq_guard (hd := rfl) (hl := rfl); exact do_binInt rfl rfl rfl trivial; exact rfl
    apply seq_plain; exact do_pick_f rfl rfl; exact rfl
    apply seq_plain; exact do_move rfl; exact rfl
    refine seq_gsplit rfl rfl (fun u6 => ?_) (fun u6 => ?_)
    · have u6 : decide (n < 1) = true := u6
      have e : T = true := by rw [hT, u1, u2, u3, u4, u5, u6]; rfl
      rw [e]
      apply seq_passed (hd := rfl) (hl := rfl) (hb := rfl); exact rfl
      apply seq_passed (hd := rfl) (hl := rfl) (hb := rfl); exact rfl
      apply seq_plain; exact do_pick_t rfl rfl; exact rfl
      apply seq_nil
      exact jp_of (by repeat (first | exact sub_nil | apply sub_cons rfl))
    have u6 : decide (n < 1) = false := u6
    have e : T = decide (n > 16) := by rw [hT, u1, u2, u3, u4, u5, u6]; rfl
    rw [e]
    apply seq_guard (hd := rfl) (hl := rfl); exact do_move rfl; exact rfl
    apply seq_guard (hd := rfl) (hl := rfl); exact do_binInt rfl rfl rfl trivial; exact rfl
    apply seq_plain; exact do_pick_f rfl rfl; exact rfl
    apply seq_nil
    exact jp_of (by repeat (first | exact sub_nil | apply sub_cons rfl))
  refine ct_cond rfl (fun u0 => ?_) (fun u0 => ?_)
  · apply ct_seq
    apply ct_region
    apply seq_call (ht := rfl); exact aw _ (ext_Ext hc'); exact rfl
    apply seq_plain; exact do_assign rfl; exact rfl
    apply seq_nil
    apply ct_ret
    exact fin_flatB hc hc' hE rfl rfl ⟨rfl, rfl⟩
  have hin : TlIn r dep note l n := by
    have u0 : T = false := u0
    rw [u0] at hT
    have := hT.symm
    simp only [Bool.or_eq_false_iff, decide_eq_false_iff_not, bne_eq_false_iff_eq, Bool.not_eq_false'] at this
    obtain ⟨⟨⟨⟨⟨⟨a1, a2⟩, a3⟩, _⟩, a5⟩, a6⟩, a7⟩ := this
    exact ⟨by omega, a2, by omega, a5, by omega, by omega⟩
  clear hT u0 s1 sR
  refine ct_to (l' := [(1, .slice q l.length c), (2, I n), (3, .pointer (some ⟨b0, 0, none⟩))]) (by repeat (first | exact sub_nil | apply sub_cons rfl)) ext_base ?_
  obtain ⟨h2, hh2⟩ : ∃ h2, h2 = ext h lo L := ⟨_, rfl⟩
  have hre : SlAt h2 3 ra qr r := by rw [hh2]; exact hre.ext (ext_Ext hc')
  have hse : SlAt h2 4 bk q l := by rw [hh2]; exact hse.ext (ext_Ext hc')
  have f0 : h2.get b0 = some (.cells [.slice qr r.length cr, I dep, I note] 0 false false) := by rw [hh2]; exact ext_get_old hc' f0
  have hE : Ext H h2 := by rw [hh2]; exact hE.trans (ext_Ext hc')
  have hc2 : Closed h2 := by rw [hh2]; exact ext_closed hc'
  have aw := fun h3 (hE2 : Ext h2 h3) => haw _ (hE.trans hE2)
  rw [← hh2]
  clear hh2 hc' hr hs
  obtain ⟨c1, c2, c3, c4, c5⟩ := charge_ok hin.chg
  have hcr := charge_rates hin.chg
  obtain ⟨nN, rfl⟩ : ∃ nN : Nat, n = nN := ⟨n.toNat, by have := hin.n1; omega⟩
  have n1 : 1 ≤ nN := by have := hin.n1; omega
  have n16 : nN ≤ 16 := by have := hin.n16; omega
  have hl10 := hin.len
  obtain ⟨lo2, hlo2⟩ : ∃ lo2, lo2 = min lo h.fresh := ⟨_, rfl⟩
  rw [← hlo2]
  clear hlo2
  apply ct_skip
  apply ct_seq
  apply ct_region
  apply seq_plain; exact do_assign rfl; exact rfl
  apply seq_nil
  apply ct_seq
  apply ct_region
  apply seq_plain; exact do_assign rfl; exact rfl
  apply seq_nil
  apply ct_seq
  apply ct_seq
  apply ct_region
  apply seq_plain; exact do_move rfl; exact rfl
  apply seq_plain; exact do_lenS rfl rfl rfl; exact rfl
  apply seq_plain; exact do_move rfl; exact rfl
  apply seq_nil
  apply ct_block
  apply ct_loop
  refine lt_meas (α := Nat × Value × List (Option ABlk)) (fun a => [(2, I nN), (3, .pointer (some ⟨b0, 0, none⟩)), (12, a.2.1), (13, I (tillS r (l.take a.1))), (96, .slice q l.length c), (97, I l.length), (98, I a.1)]) (fun a => ext h2 lo2 a.2.2) (fun a => a.1 ≤ l.length ∧ Lst h2 a.2.2 3 po 0 a.2.1 (tillL r dep (l.take a.1)) ∧ ∀ b ∈ l.take a.1, b.to ≤ 400) (fun a => l.length - a.1) (fun a ha ih => ?_) (0, .slice none 0 0, []) ⟨by simp, .nil, by simp⟩ (by repeat (first | exact sub_nil | apply sub_cons rfl)) (.refl _)
  obtain ⟨i, v, L⟩ := a
  obtain ⟨hi, hv, h4⟩ := ha
  simp only at hi hv h4 ih ⊢
  have ih' := fun i' v' L' a1 a2 a3 a4 => ih (i', v', L') a1 ⟨a2, a3, a4⟩
  simp only at ih'
  clear ih
  apply ct_seq
  apply ct_region
  apply seq_plain; exact do_binInt rfl rfl rfl trivial; exact rfl
  apply seq_nil
  apply ct_seq
  refine ct_cond rfl (fun h1 => ?_) (fun h1 => ?_)
  · simp only [decide_eq_true_eq, Int.ofNat_lt] at h1
    obtain ⟨bT, oT, csT, zT, stT, roT, rfl, hgT, hwT⟩ := hse.out (by intro e; rw [e] at h1; simp at h1)
    apply ct_skip
    apply ct_seq
    apply ct_block
    apply ct_seq
    apply ct_region
    apply seq_plain; exact do_indexAddrS rfl rfl rfl (by exact idx_nat (by omega)); exact rfl
    apply seq_plain; exact do_load rfl (by exact ext_get_old (by assumption) (by assumption)) rfl (by exact pt_sl (by assumption) (by omega)); exact rfl
    apply seq_newP; exact do_alloc rfl rfl; exact rfl
    apply seq_putC (hc := by assumption); rotate_left; exact do_store rfl rfl (by exact ext_get_new List.getElem?_concat_length) rfl rfl (nb_own _); rotate_left; exact (by simp)
    apply ct_seq
    apply ct_seq
    apply ct_region
    apply seq_plain; exact do_fieldAddr rfl rfl; exact rfl
    apply seq_plain; exact do_load rfl (by exact ext_get_new getSetLast) rfl (by exact rfl); exact rfl
    apply seq_plain; exact do_binInt rfl rfl rfl trivial; exact rfl
    apply seq_nil
    rw [set_mid rfl]
    refine ct_to (l' := [(2, I nN), (3, .pointer (some ⟨b0, 0, none⟩)), (12, v), (13, I (tillS r (l.take i))), (15, .pointer (some ⟨nb h2 L.length, 0, none⟩)), (96, .slice (some ⟨bT, oT, none⟩) l.length c), (97, I l.length), (98, I i), (104, .bool (decide (l[i].to > 400)))]) (h' := ext h2 lo2 (L ++ [some (.cells (bk l[i]) 0 false false)])) (by repeat (first | exact sub_nil | apply sub_cons rfl)) (.refl _) ?_
    obtain ⟨M1, hM1⟩ : ∃ M1, M1 = L ++ [some (.cells (bk l[i]) 0 false false)] := ⟨_, rfl⟩
    obtain ⟨k, hk⟩ : ∃ k, k = L.length := ⟨_, rfl⟩
    have fk : M1[k]? = some (some (.cells (bk l[i]) 0 false false)) := by rw [hM1, hk]; exact List.getElem?_concat_length
    have hv : Lst h2 M1 3 po 0 v (tillL r dep (l.take i)) := by rw [hM1]; exact hv.app _
    rw [← hM1, ← hk]
    clear hM1 hk
    refine ct_cond rfl (fun w4 => ?_) (fun w4 => ?_)
    · apply ct_seq
      apply ct_region
      apply seq_call (ht := rfl); exact aw _ (ext_Ext hc2); exact rfl
      apply seq_plain; exact do_assign rfl; exact rfl
      apply seq_nil
      apply ct_ret
      exact fin_flatB hc hc2 hE rfl rfl ⟨rfl, rfl⟩
    have w4 : ¬ l[i].to > 400 := of_decide_eq_false w4
    obtain ⟨g0, g1, g2, g3⟩ := hin.bk h1
    obtain ⟨p0, p1, p2, p3, p4⟩ := price_in c1 hcr (a := l[i].frm) (b := l[i].to) g1 (by omega) (by omega)
    have ep : priceP r l[i].frm.toNat l[i].to.toNat = priB r l[i] := rfl
    rw [ep] at p1 p3 p4
    have xB : billX r dep note l[i] = 0 := by
      have e1 : billE r dep note l[i] = 0 := by unfold billE; rw [hin.chg, g0]; rfl
      unfold billX
      rw [if_neg (by rw [e1]; simp), if_neg (by rw [ep]; omega)]
    have eB : billB r dep note l[i] = billL (priB r l[i]) dep := by unfold billB; rw [if_neg (by rw [xB]; simp), ep]
    have ts := till_snoc (r := r) (dep := dep) h1
    have cB := bill_c (H := ext h2 lo2 M1) (c := cr) (dep := dep) (note := note) (b := l[i]) (hre.ext (ext_Ext hc2)) hlow (by omega)
    rw [lstH_ext, ext_fresh, xB, eB] at cB
    obtain ⟨B, hB⟩ : ∃ B, B = billL (priB r l[i]) dep := ⟨_, rfl⟩
    have hB4 : B.length ≤ 4 := by rw [hB]; exact bill_len
    rw [← hB] at cB ts
    clear hB eB xB g0
    apply ct_skip
    apply ct_seq
    apply ct_region
    apply seq_plain; exact do_load rfl (by exact ext_get_old (by assumption) (by assumption)) rfl (by exact rfl); exact rfl
    apply seq_plain; exact do_load rfl (by exact ext_get_new (by assumption)) rfl (by exact rfl); exact rfl
    apply seq_call (ht := rfl); exact cB; exact rfl
    clear cB
    obtain ⟨pB, hpB⟩ : ∃ pB, pB = lstP (nb h2 M1.length) B := ⟨_, rfl⟩
    have sB : SlAt (ext h2 lo2 (M1 ++ lstL 3 po B)) 3 po pB B := by rw [hpB]; exact lst_slAt po_len
    have bB : BlkS (ext h2 lo2 (M1 ++ lstL 3 po B)) pB := by rw [hpB]; exact blk_lst
    have fk := getApp (m := lstL 3 po B) fk
    have hv := hv.app (lstL 3 po B)
    refine seqL_to (l' := [(2, I nN), (3, .pointer (some ⟨b0, 0, none⟩)), (12, v), (13, I (tillS r (l.take i))), (15, .pointer (some ⟨nb h2 k, 0, none⟩)), (96, .slice (some ⟨bT, oT, none⟩) l.length c), (97, I l.length), (98, I i), (109, .tuple ⟨[.slice pB B.length B.length, I 0]⟩)]) (by rw [hpB]; (repeat (first | exact sub_nil | apply sub_cons rfl))) (.refl _) (by simp) ?_
    obtain ⟨M2, hM2⟩ : ∃ M2, M2 = M1 ++ lstL 3 po B := ⟨_, rfl⟩
    rw [← hM2] at sB bB fk hv ⊢
    clear hM2 hpB
    have cP : ∀ L, Ret Tryz.prog 12 [.slice qr r.length cr, I l[i].frm, I l[i].to] (ext h2 lo2 L) (.tuple ⟨[I (priB r l[i]), I 0]⟩) (ext h2 lo2 L) := fun L => by
      have := Price_c (c := cr) (a := l[i].frm) (b := l[i].to) (hre.ext (ext_Ext hc2 (lo := lo2) (L := L))) hlow (by omega)
      rwa [p1, p2] at this
    obtain ⟨S, hS⟩ : ∃ S, S = sharesP (priB r l[i]).toNat nN := ⟨_, rfl⟩
    have hSl : S.length = nN := by rw [hS]; exact sharesP_len
    have cS : Ret Tryz.prog 13 [.slice qr r.length cr, I l[i].frm, I l[i].to, I nN] (ext h2 lo2 M2) (.tuple ⟨[.slice (some ⟨nb h2 M2.length, 0, none⟩) nN nN, I 0]⟩) (ext h2 lo2 (M2 ++ [some (.cells (S.map I) 1 false false)])) := by
      have e1 : ((l[i].frm.toNat : Nat) : Int) = l[i].frm := Int.toNat_of_nonneg g1
      have e2 : ((l[i].to.toNat : Nat) : Int) = l[i].to := Int.toNat_of_nonneg (by omega)
      have := split_c (H := ext h2 lo2 M2) (c := cr) (a := l[i].frm.toNat) (b := l[i].to.toNat) (n := nN) (hre.ext (ext_Ext hc2)) hlow (by omega) (by rw [e1, e2]; exact p0) n1 n16 (by rw [ep]; omega)
      rw [e1, e2, ext_add, ext_fresh, ep, ← hS] at this
      exact this
    apply seq_plain; exact do_move rfl; exact rfl
    apply seq_plain; exact do_extract rfl rfl; exact rfl
    apply seq_plain; exact do_extract rfl rfl; exact rfl
    apply seq_plain; exact do_assign rfl; exact rfl
    apply seq_plain; exact do_assign rfl; exact rfl
    apply seq_nil
    apply ct_seq
    apply ct_region
    apply seq_plain; exact do_fieldAddr rfl rfl; exact rfl
    apply seq_plain; exact do_load rfl (by exact ext_get_old (by assumption) (by assumption)) rfl (by exact rfl); exact rfl
    apply seq_plain; exact do_fieldAddr rfl rfl; exact rfl
    apply seq_plain; exact do_load rfl (by exact ext_get_new (by assumption)) rfl (by exact rfl); exact rfl
    apply seq_plain; exact do_fieldAddr rfl rfl; exact rfl
    apply seq_plain; exact do_load rfl (by exact ext_get_new (by assumption)) rfl (by exact rfl); exact rfl
    apply seq_call (ht := rfl); exact cP _; exact rfl
    apply seq_plain; exact do_move rfl; exact rfl
    apply seq_plain; exact do_extract rfl rfl; exact rfl
    apply seq_plain; exact do_extract rfl rfl; exact rfl
    apply seq_plain; exact do_assign rfl; exact rfl
    apply seq_plain; exact do_assign rfl; exact rfl
    apply seq_nil
    apply ct_seq
    apply ct_region
    apply seq_plain; exact do_fieldAddr rfl rfl; exact rfl
    apply seq_plain; exact do_load rfl (by exact ext_get_old (by assumption) (by assumption)) rfl (by exact rfl); exact rfl
    apply seq_plain; exact do_fieldAddr rfl rfl; exact rfl
    apply seq_plain; exact do_load rfl (by exact ext_get_new (by assumption)) rfl (by exact rfl); exact rfl
    apply seq_plain; exact do_fieldAddr rfl rfl; exact rfl
    apply seq_plain; exact do_load rfl (by exact ext_get_new (by assumption)) rfl (by exact rfl); exact rfl
    apply seq_plain; exact do_move rfl; exact rfl
    apply seq_call (ht := rfl); exact cS; exact rfl
    clear cP cS
    have fk := getApp (m := [some (.cells (S.map I) 1 false false)]) fk
    have hv := hv.app [some (.cells (S.map I) 1 false false)]
    have fS : (M2 ++ [some (.cells (S.map I) 1 false false)])[M2.length]? = some (some (.cells (S.map I) 1 false false)) := List.getElem?_concat_length
    have e23 : Ext (ext h2 lo2 M2) (ext h2 lo2 (M2 ++ [some (.cells (S.map I) 1 false false)])) := ext_more hc2
    have sB := sB.ext e23
    have bB := bB.ext e23
    obtain ⟨kS, hkS⟩ : ∃ kS, kS = M2.length := ⟨_, rfl⟩
    obtain ⟨M3, hM3⟩ : ∃ M3, M3 = M2 ++ [some (.cells (S.map I) 1 false false)] := ⟨_, rfl⟩
    rw [← hkS] at fS ⊢
    rw [← hM3] at fS fk hv sB bB ⊢
    clear hkS hM3 e23
    apply seq_plain; exact do_move rfl; exact rfl
    apply seq_plain; exact do_extract rfl rfl; exact rfl
    apply seq_plain; exact do_extract rfl rfl; exact rfl
    apply seq_plain; exact do_assign rfl; exact rfl
    apply seq_plain; exact do_assign rfl; exact rfl
    apply seq_nil
    apply ct_seq
    apply ct_region
    apply seq_plain; exact do_move rfl; exact rfl
    apply seq_newS; exact do_makeSlice rfl rfl rfl rfl rfl rfl (Nat.le_refl _) (by omega) (Nat.le_trans (Nat.mul_le_mul_left _ n16) (Nat.le_of_ble_eq_true rfl)); exact rfl
    obtain ⟨W, hW⟩ : ∃ W : Nat → List Int, ∀ j, W j = stepS nN j (fun _ => 1) (fun _ => 0) := ⟨_, fun _ => rfl⟩
    have wL : ∀ j, (W j).length = nN := fun j => by rw [hW]; exact stepS_len
    have wX : ∀ j, (W j).set j 1 = W (j + 1) := fun j => by rw [hW, hW]; exact stepS_set _ rfl
    have w0 : repl [I 0] nN = (W 0).map I := by rw [hW, stepS_zero]; exact repl_int nN
    have wN : (W nN).map I = List.replicate nN (I 1) := by rw [hW, stepS_one]; simp [List.map_const']
    refine seqL_to (l' := [(2, I nN), (3, .pointer (some ⟨b0, 0, none⟩)), (12, v), (13, I (tillS r (l.take i))), (15, .pointer (some ⟨nb h2 k, 0, none⟩)), (16, .slice pB B.length B.length), (17, I 0), (18, I (priB r l[i])), (19, I 0), (20, .slice (some ⟨nb h2 kS, 0, none⟩) nN nN), (21, I 0), (134, .slice (some ⟨nb h2 M3.length, 0, none⟩) nN nN), (96, .slice (some ⟨bT, oT, none⟩) l.length c), (97, I l.length), (98, I i)]) (h' := ext h2 lo2 (M3 ++ [some (.cells (repl [I 0] nN) 1 false false)])) (by repeat (first | exact sub_nil | apply sub_cons rfl)) (.refl _) (by simp) ?_
    rw [w0]
    apply seq_plain; exact do_assign rfl; exact rfl
    apply seq_nil
    apply ct_seq
    apply ct_seq
    apply ct_region
    apply seq_plain; exact do_move rfl; exact rfl
    apply seq_plain; exact do_lenS rfl rfl rfl; exact rfl
    apply seq_plain; exact do_move rfl; exact rfl
    apply seq_nil
    apply ct_block
    apply ct_loop
    refine lt_meas (α := Nat) (fun j => [(2, I nN), (3, .pointer (some ⟨b0, 0, none⟩)), (12, v), (13, I (tillS r (l.take i))), (15, .pointer (some ⟨nb h2 k, 0, none⟩)), (16, .slice pB B.length B.length), (17, I 0), (18, I (priB r l[i])), (19, I 0), (20, .slice (some ⟨nb h2 kS, 0, none⟩) nN nN), (21, I 0), (22, .slice (some ⟨nb h2 M3.length, 0, none⟩) nN nN), (96, .slice (some ⟨bT, oT, none⟩) l.length c), (97, I l.length), (98, I i), (136, I nN), (137, I j)]) (fun j => ext h2 lo2 (M3 ++ [some (.cells ((W j).map I) 1 false false)])) (fun j => j ≤ nN) (fun j => nN - j) (fun j hj jh => ?_) 0 (Nat.zero_le _) (by repeat (first | exact sub_nil | apply sub_cons rfl)) (.refl _)
    apply ct_seq
    apply ct_region
    apply seq_plain; exact do_binInt rfl rfl rfl trivial; exact rfl
    apply seq_nil
    apply ct_seq
    refine ct_cond rfl (fun h3 => ?_) (fun h3 => ?_)
    · simp only [decide_eq_true_eq, Int.ofNat_lt] at h3
      apply ct_skip
      apply ct_seq
      apply ct_block
      apply ct_seq
      apply ct_region
      apply seq_plain; exact do_move rfl; exact rfl
      apply seq_plain; exact do_assign rfl; exact rfl
      apply seq_nil
      apply ct_region
      apply seq_plain; exact do_move rfl; exact rfl
      apply seq_plain; exact do_move rfl; exact rfl
      apply seq_plain; exact do_indexAddrS rfl rfl rfl (by exact idx_nat (by omega)); exact rfl
      apply seq_putC (hc := by assumption); rotate_left; exact do_store rfl rfl (ext_get_new List.getElem?_concat_length) rfl (stl_map (v := (1 : Int)) (by rw [wL]; omega) rfl rfl) (nb_own _); rotate_left; exact (by simp)
      rw [set_mid rfl, wX]
      apply ct_region
      apply seq_plain; exact do_succ rfl (by omega); exact rfl
      apply seq_plain; exact do_move rfl; exact rfl
      apply seq_nil
      exact lt_sub (by repeat (first | exact sub_nil | apply sub_cons rfl)) (jh (j + 1) (by omega) (by omega))
    have h3 : j = nN := by simp at h3; omega
    rw [h3, wN]
    clear jh hj hW wL wX w0 wN
    obtain ⟨kW, hkW⟩ : ∃ kW, kW = M3.length := ⟨_, rfl⟩
    have fW : (M3 ++ [some (onesB nN)])[kW]? = some (some (onesB nN)) := by rw [hkW]; exact List.getElem?_concat_length
    have fk := getApp (m := [some (onesB nN)]) fk
    have fS := getApp (m := [some (onesB nN)]) fS
    have hv := hv.app [some (onesB nN)]
    have e34 : Ext (ext h2 lo2 M3) (ext h2 lo2 (M3 ++ [some (onesB nN)])) := ext_more hc2
    have sB := sB.ext e34
    have bB := bB.ext e34
    rw [← hkW]
    refine ct_to (l' := [(2, I nN), (3, .pointer (some ⟨b0, 0, none⟩)), (12, v), (13, I (tillS r (l.take i))), (15, .pointer (some ⟨nb h2 k, 0, none⟩)), (16, .slice pB B.length B.length), (17, I 0), (18, I (priB r l[i])), (19, I 0), (20, .slice (some ⟨nb h2 kS, 0, none⟩) nN nN), (21, I 0), (22, .slice (some ⟨nb h2 kW, 0, none⟩) nN nN), (96, .slice (some ⟨bT, oT, none⟩) l.length c), (97, I l.length), (98, I i)]) (h' := ext h2 lo2 (M3 ++ [some (onesB nN)])) (by repeat (first | exact sub_nil | apply sub_cons rfl)) (.refl _) ?_
    obtain ⟨M4, hM4⟩ : ∃ M4, M4 = M3 ++ [some (onesB nN)] := ⟨_, rfl⟩
    rw [← hM4] at fW fS fk hv sB bB ⊢
    clear hkW hM4 e34
    have cSh : Ret Tryz.prog 14 [I (priB r l[i]), .slice (some ⟨nb h2 kW, 0, none⟩) nN nN] (ext h2 lo2 M4) (.tuple ⟨[.slice (some ⟨nb h2 M4.length, 0, none⟩) nN nN, I 0]⟩) (ext h2 lo2 (M4 ++ [some (.cells (S.map I) 1 false false)])) := by
      have := shares_c (H := ext h2 lo2 M4) (b := nb h2 kW) (total := (priB r l[i]).toNat) n1 n16 (nb_own _) (ext_get_new fW) (by omega)
      rw [Int.toNat_of_nonneg p3, ext_add, ext_fresh, ← hS] at this
      exact this
    apply ct_exit
    apply exit_eq; exact rfl
    apply ct_seq
    apply ct_region
    apply seq_plain; exact do_move rfl; exact rfl
    apply seq_plain; exact do_move rfl; exact rfl
    apply seq_call (ht := rfl); exact cSh; exact rfl
    clear cSh
    have fT : (M4 ++ [some (.cells (S.map I) 1 false false)])[M4.length]? = some (some (.cells (S.map I) 1 false false)) := List.getElem?_concat_length
    have fk := getApp (m := [some (.cells (S.map I) 1 false false)]) fk
    have fS := getApp (m := [some (.cells (S.map I) 1 false false)]) fS
    have hv := hv.app [some (.cells (S.map I) 1 false false)]
    have e45 : Ext (ext h2 lo2 M4) (ext h2 lo2 (M4 ++ [some (.cells (S.map I) 1 false false)])) := ext_more hc2
    have sB := sB.ext e45
    have bB := bB.ext e45
    obtain ⟨kT, hkT⟩ : ∃ kT, kT = M4.length := ⟨_, rfl⟩
    obtain ⟨M5, hM5⟩ : ∃ M5, M5 = M4 ++ [some (.cells (S.map I) 1 false false)] := ⟨_, rfl⟩
    rw [← hkT] at fT ⊢
    rw [← hM5] at fT fS fk hv sB bB ⊢
    clear hkT hM5 e45
    have cI : Ret Tryz.prog 15 [.slice (some ⟨nb h2 kS, 0, none⟩) nN nN, .slice (some ⟨nb h2 kT, 0, none⟩) nN nN] (ext h2 lo2 M5) (.bool true) (ext h2 lo2 M5) := by
      have := sameInts79 (H := ext h2 lo2 M5) (c := nN) (c' := nN) (l := S) (m := S) (slAt_map (ext_get_new fS)) (slAt_map (ext_get_new fT)) (by omega)
      have e : decide (S = S) = true := decide_eq_true rfl
      rw [hSl, e] at this
      exact this
    have e4 : decide ((B.length : Int) > 4) = false := decide_eq_false (by omega)
    apply seq_plain; exact do_move rfl; exact rfl
    apply seq_plain; exact do_extract rfl rfl; exact rfl
    apply seq_plain; exact do_extract rfl rfl; exact rfl
    apply seq_plain; exact do_assign rfl; exact rfl
    apply seq_plain; exact do_assign rfl; exact rfl
    apply seq_nil
    apply ct_seq
    apply ct_seq
    apply ct_region
    apply seq_plain; exact do_move rfl; exact rfl
    apply seq_plain; exact do_move rfl; exact rfl
    apply seq_plain; exact do_add rfl rfl (by omega); exact rfl
    apply seq_plain; exact do_move rfl; exact rfl
    apply seq_plain; exact do_add rfl rfl (by omega); exact rfl
    apply seq_plain; exact do_move rfl; exact rfl
    apply seq_plain; exact do_add rfl rfl (by omega); exact rfl
    apply seq_plain; exact do_binInt rfl rfl rfl trivial; exact rfl
    apply seq_plain; exact do_move rfl; exact rfl
    apply seq_guard (hd := rfl) (hl := rfl); exact do_move rfl; exact rfl
    apply seq_guard (hd := rfl) (hl := rfl); exact do_lenS rfl rfl rfl; exact rfl
    apply seq_guard (hd := rfl) (hl := rfl); exact do_binInt rfl rfl rfl trivial; exact rfl
    apply seq_plain; exact do_pick_f rfl rfl; exact rfl
    apply seq_plain; exact do_move rfl; exact rfl
    rw [e4]
    apply seq_guard (hd := rfl) (hl := rfl); exact do_move rfl; exact rfl
    apply seq_guard (hd := rfl) (hl := rfl); exact do_move rfl; exact rfl
    apply seq_gcall (hg := rfl) (hl := rfl) (ht := rfl); exact cI; exact rfl
    apply seq_guard (hd := rfl) (hl := rfl); exact do_unOp rfl rfl; exact rfl
    apply seq_plain; exact do_pick_f rfl rfl; exact rfl
    apply seq_plain; exact do_move rfl; exact rfl
    apply seq_guard (hd := rfl) (hl := rfl); exact do_move rfl; exact rfl
    apply seq_guard (hd := rfl) (hl := rfl); exact do_binInt rfl rfl rfl trivial; exact rfl
    apply seq_plain; exact do_pick_f rfl rfl; exact rfl
    apply seq_nil
    refine ct_cond_f rfl (decide_eq_false (by omega)) ?_
    clear cI e4 fS fT fW hSl hS
    obtain ⟨F, hF⟩ : ∃ F, F = l[i].frm.toNat := ⟨_, rfl⟩
    obtain ⟨G, hG⟩ : ∃ G, G = l[i].to.toNat := ⟨_, rfl⟩
    have e27 : ((F + 0 : Nat) : Int) = l[i].frm := by rw [hF]; omega
    have e26 : priceP r F (F + 0) = 0 := by show priceP r F F = 0; unfold priceP; omega
    have eG : (G : Int) = l[i].to := by rw [hG]; omega
    have cQ : ∀ k, F + k < G → Ret Tryz.prog 12 [.slice qr r.length cr, I ((F + k : Nat) : Int), I ((F + k + 1 : Nat) : Int)] (ext h2 lo2 M5) (.tuple ⟨[I (priceP r (F + k) (F + k + 1)), I 0]⟩) (ext h2 lo2 M5) := fun k hk => by
      obtain ⟨y0, y1, y2, y3, y4⟩ := price_in c1 hcr (a := ((F + k : Nat) : Int)) (b := ((F + k + 1 : Nat) : Int)) (by omega) (by omega) (by omega)
      have := Price_c (c := cr) (a := ((F + k : Nat) : Int)) (b := ((F + k + 1 : Nat) : Int)) (hre.ext (ext_Ext hc2 (lo := lo2) (L := M5))) hlow (by omega)
      rw [y1, y2] at this
      exact this
    obtain ⟨kK, hkK⟩ : ∃ kK, kK = k := ⟨_, rfl⟩
    rw [← hkK] at fk ⊢
    clear hkK
    have eP : priceP r F G = priB r l[i] := by rw [hF, hG]; rfl
    have hFG : F < G := by omega
    have hG4 : G ≤ 400 := by omega
    clear hF hG
    apply ct_skip
    apply ct_seq
    apply ct_region
    apply seq_plain; exact do_assign rfl; exact rfl
    apply seq_nil
    apply ct_seq
    apply ct_seq
    apply ct_region
    apply seq_plain; exact do_fieldAddr rfl rfl; exact rfl
    apply seq_plain; exact do_load rfl (by exact ext_get_new (by assumption)) rfl (by exact rfl); exact rfl
    apply seq_plain; exact do_assign rfl; exact rfl
    apply seq_nil
    apply ct_block
    apply ct_loop
    refine lt_up (fun k => [(2, I nN), (3, .pointer (some ⟨b0, 0, none⟩)), (12, v), (13, I (tillS r (l.take i))), (15, .pointer (some ⟨nb h2 kK, 0, none⟩)), (16, .slice pB B.length B.length), (18, I (priB r l[i])), (26, I (priceP r F (F + k))), (27, I ((F + k : Nat) : Int)), (96, .slice (some ⟨bT, oT, none⟩) l.length c), (97, I l.length), (98, I i)]) (fun _ => True) (G - F) (fun k hk _ kh => ?_) 0 (by omega) trivial (by simp only [e26, e27]; (repeat (first | exact sub_nil | apply sub_cons rfl)))
    apply ct_seq
    apply ct_seq
    apply ct_region
    apply seq_plain; exact do_move rfl; exact rfl
    apply seq_plain; exact do_fieldAddr rfl rfl; exact rfl
    apply seq_plain; exact do_load rfl (by exact ext_get_new (by assumption)) rfl (by exact rfl); exact rfl
    apply seq_plain; exact do_binInt rfl rfl rfl trivial; exact rfl
    apply seq_nil
    refine ct_cond rfl (fun h3 => ?_) (fun h3 => ?_)
    · have h3 : decide (((F + k : Nat) : Int) < l[i].to) = true := h3
      have h3 : F + k < G := by
        have h3 := of_decide_eq_true h3
        omega
      have q1 := priceP_bd c1 (a := F) (b := F + k) (by omega)
      have q2 := priceP_bd c1 (a := F + k) (b := F + k + 1) (by omega)
      have q3 := priceP_add (l := r) F (F + k) (F + k + 1)
      have cQk := cQ k h3
      apply ct_skip
      apply ct_seq
      apply ct_block
      apply ct_seq
      apply ct_region
      apply seq_plain; exact do_fieldAddr rfl rfl; exact rfl
      apply seq_plain; exact do_load rfl (by exact ext_get_old (by assumption) (by assumption)) rfl (by exact rfl); exact rfl
      apply seq_plain; exact do_move rfl; exact rfl
      apply seq_plain; exact do_move rfl; exact rfl
      apply seq_plain; exact do_succ rfl (by omega); exact rfl
      apply seq_call (ht := rfl); exact cQk; exact rfl
      apply seq_plain; exact do_move rfl; exact rfl
      apply seq_plain; exact do_extract rfl rfl; exact rfl
      apply seq_plain; exact do_extract rfl rfl; exact rfl
      apply seq_plain; exact do_assign rfl; exact rfl
      apply seq_plain; exact do_assign rfl; exact rfl
      apply seq_nil
      apply ct_seq
      apply ct_seq
      apply ct_region
      apply seq_plain; exact do_move rfl; exact rfl
      apply seq_plain; exact do_binInt rfl rfl rfl trivial; exact rfl
      apply seq_nil
      refine ct_cond_f rfl rfl ?_
      apply ct_skip
      apply ct_region
      apply seq_plain; exact do_move rfl; exact rfl
      apply seq_plain; exact do_move rfl; exact rfl
      apply seq_plain; exact do_add rfl rfl (by omega); exact rfl
      apply seq_plain; exact do_assign rfl; exact rfl
      apply seq_nil
      apply ct_region
      apply seq_plain; exact do_move rfl; exact rfl
      apply seq_plain; exact do_succ rfl (by omega); exact rfl
      apply seq_plain; exact do_assign rfl; exact rfl
      apply seq_nil
      rw [q3]
      exact lt_sub (by repeat (first | exact sub_nil | apply sub_cons rfl)) (kh (k + 1) (by omega) (by omega) trivial)
    have h3 : decide (((F + k : Nat) : Int) < l[i].to) = false := h3
    have h3 : F + k = G := by
      have h3 := of_decide_eq_false h3
      omega
    rw [h3, eP]
    clear kh cQ e26 e27
    apply ct_exit
    apply exit_eq; exact rfl
    apply ct_seq
    apply ct_seq
    apply ct_region
    apply seq_plain; exact do_move rfl; exact rfl
    apply seq_plain; exact do_move rfl; exact rfl
    apply seq_plain; exact do_binInt rfl rfl rfl trivial; exact rfl
    apply seq_nil
    refine ct_cond_f rfl (by simp) ?_
    have hW := wv_of (c := B.length) po_len sB bB
    have hlT := till_len (r := r) (dep := dep) (l := l.take i)
    rw [List.length_take] at hlT
    have hsum := hin.sum hi h4
    apply ct_skip
    apply ct_seq
    apply ct_region
    apply seq_plain; exact do_move rfl; exact rfl
    apply seq_plain; exact do_move rfl; exact rfl
    refine seq_appW (xs := B) (lst := tillL r dep (l.take i)) hc2 hv (Nat.zero_le _) po_len (fun _ => rfl) hW rfl rfl rfl rfl rfl rfl (Nat.le_trans (Nat.mul_le_mul_right _ (by omega : _ ≤ 30000)) (Nat.le_of_ble_eq_true rfl)) (Nat.ne_of_beq_eq_false rfl) (Nat.ne_of_beq_eq_false rfl) rfl (fun v' L' hv' hst' hle' => ?_)
    rw [← ts] at hv'
    apply seq_plain; exact do_assign rfl; exact rfl
    apply seq_nil
    apply ct_region
    apply seq_plain; exact do_move rfl; exact rfl
    apply seq_plain; exact do_move rfl; exact rfl
    apply seq_plain; exact do_add rfl rfl (by omega); exact rfl
    apply seq_plain; exact do_assign rfl; exact rfl
    apply seq_nil
    apply ct_region
    apply seq_plain; exact do_succ rfl (by omega); exact rfl
    apply seq_plain; exact do_move rfl; exact rfl
    apply seq_nil
    rw [← tillS_snoc h1]
    refine lt_sub (by repeat (first | exact sub_nil | apply sub_cons rfl)) (ih' (i + 1) v' L' (by omega) (by omega) hv' ?_)
    intro b hb
    rw [take_snoc h1] at hb
    rcases List.mem_append.1 hb with hb | hb
    · exact h4 b hb
    · obtain rfl := List.mem_singleton.1 hb
      omega
  have h1 : i = l.length := by simp at h1; omega
  subst h1
  rw [List.take_length] at hv h4 ⊢
  clear ih' hi
  have h4 : ∀ b ∈ l.take l.length, b.to ≤ 400 := by rw [List.take_length]; exact h4
  have hT := hin.ok h4
  have hsum := hin.sum (Nat.le_refl _) h4
  rw [List.take_length] at hT hsum
  obtain ⟨t1, t2, t3⟩ := hT.bal l.length (Nat.le_refl _)
  rw [List.take_length] at t1 t2 t3
  have hpos := hT.pos
  have hP40 : (tillL r dep l).length ≤ 40 := by have := till_len (r := r) (dep := dep) (l := l); omega
  obtain ⟨P, hP⟩ : ∃ P, P = tillL r dep l := ⟨_, rfl⟩
  obtain ⟨S, hS⟩ : ∃ S, S = tillS r l := ⟨_, rfl⟩
  rw [← hP] at t1 t2 t3 hpos hP40 hv
  rw [← hS] at t1 t2 hsum ⊢
  clear hP hS h4 hT
  obtain ⟨pP, rfl, lP, sP⟩ := lst_low hv po_len
  have sP := sP L lo2 (.refl _)
  have kB : ∀ j, j < 4 → Ret Tryz.prog 16 [.slice pP P.length P.length, .string (acc j)] (ext h2 lo2 L) (.tuple ⟨[I (balI P (acc j)), I 0]⟩) (ext h2 lo2 L) := fun j hj => by
    have := balance_c (H := ext h2 lo2 L) (a := acc j) sP lP (by omega)
    rwa [(balV_acc hpos hj).1, (balV_acc hpos hj).2] at this
  have k0 := kB 0 (by omega)
  have k2 := kB 2 (by omega)
  have k1 := kB 1 (by omega)
  rw [t1] at k0
  rw [t2] at k2
  rw [t3] at k1
  obtain ⟨z1, z2, z3⟩ := till_trial hpos hP40
  have cT := trial_c (H := ext h2 lo2 L) (c := P.length) sP lP (by omega)
  have hT : trlV P = trialL P := if_pos hpos
  rw [lstH_ext, ext_fresh, hpos, hT] at cT
  obtain ⟨T, hTe⟩ : ∃ T, T = trialL P := ⟨_, rfl⟩
  rw [← hTe] at cT z1 z2 z3
  clear hT hTe kB t1 t2 t3 sP lP hv hpos
  apply ct_exit
  apply exit_eq; exact rfl
  apply ct_seq
  apply ct_region
  apply seq_plain; exact do_move rfl; exact rfl
  apply seq_call (ht := rfl); exact k0; exact rfl
  apply seq_plain; exact do_move rfl; exact rfl
  apply seq_plain; exact do_extract rfl rfl; exact rfl
  apply seq_plain; exact do_extract rfl rfl; exact rfl
  apply seq_plain; exact do_assign rfl; exact rfl
  apply seq_plain; exact do_assign rfl; exact rfl
  apply seq_nil
  apply ct_seq
  apply ct_region
  apply seq_plain; exact do_move rfl; exact rfl
  apply seq_call (ht := rfl); exact k2; exact rfl
  apply seq_plain; exact do_move rfl; exact rfl
  apply seq_plain; exact do_extract rfl rfl; exact rfl
  apply seq_plain; exact do_extract rfl rfl; exact rfl
  apply seq_plain; exact do_assign rfl; exact rfl
  apply seq_plain; exact do_assign rfl; exact rfl
  apply seq_nil
  apply ct_seq
  apply ct_region
  apply seq_plain; exact do_move rfl; exact rfl
  apply seq_call (ht := rfl); exact k1; exact rfl
  apply seq_plain; exact do_move rfl; exact rfl
  apply seq_plain; exact do_extract rfl rfl; exact rfl
  apply seq_plain; exact do_extract rfl rfl; exact rfl
  apply seq_plain; exact do_assign rfl; exact rfl
  apply seq_plain; exact do_assign rfl; exact rfl
  apply seq_nil
  apply ct_seq
  apply ct_region
  apply seq_plain; exact do_move rfl; exact rfl
  apply seq_call (ht := rfl); exact cT; exact rfl
  clear k0 k1 k2 cT
  have hv : Lst h2 (L ++ lstL 2 ab T) 2 ab 0 (lstV (nb h2 L.length) T) T := lst_ofL (Nat.zero_le _)
  obtain ⟨pT, e1, sT⟩ := hv.slAll ab_len
  rw [e1]
  have sT := sT _ lo2 (.refl _)
  clear hv e1
  refine seqL_to (l' := [(13, I S), (30, I S), (31, I 0), (32, I (-S)), (33, I 0), (34, I 0), (35, I 0), (222, .tuple ⟨[.slice pT T.length T.length, I 0]⟩)]) (by repeat (first | exact sub_nil | apply sub_cons rfl)) ext_base (by simp) ?_
  obtain ⟨h3, hh3⟩ : ∃ h3, h3 = ext h2 lo2 (L ++ lstL 2 ab T) := ⟨_, rfl⟩
  have hE : Ext H h3 := by rw [hh3]; exact hE.trans (ext_Ext hc2)
  have hc3 : Closed h3 := by rw [hh3]; exact ext_closed hc2
  have aw := fun h4 (hE2 : Ext h3 h4) => haw _ (hE.trans hE2)
  rw [← hh3] at sT ⊢
  refine seq_anyLo fun lo => ?_
  clear hh3
  apply seq_plain; exact do_move rfl; exact rfl
  apply seq_plain; exact do_extract rfl rfl; exact rfl
  apply seq_plain; exact do_extract rfl rfl; exact rfl
  apply seq_plain; exact do_assign rfl; exact rfl
  apply seq_plain; exact do_assign rfl; exact rfl
  apply seq_nil
  apply ct_seq
  apply ct_seq
  apply ct_region
  apply seq_plain; exact do_move rfl; exact rfl
  apply seq_plain; exact do_move rfl; exact rfl
  apply seq_plain; exact do_add rfl rfl (by omega); exact rfl
  apply seq_plain; exact do_move rfl; exact rfl
  apply seq_plain; exact do_add rfl rfl (by omega); exact rfl
  apply seq_plain; exact do_move rfl; exact rfl
  apply seq_plain; exact do_add rfl rfl (by omega); exact rfl
  apply seq_plain; exact do_binInt rfl rfl rfl trivial; exact rfl
  apply seq_plain; exact do_move rfl; exact rfl
  apply seq_guard (hd := rfl) (hl := rfl); exact do_move rfl; exact rfl
  apply seq_guard (hd := rfl) (hl := rfl); exact do_move rfl; exact rfl
  apply seq_guard (hd := rfl) (hl := rfl); exact do_binInt rfl rfl rfl trivial; exact rfl
  apply seq_plain; exact do_pick_f rfl rfl; exact rfl
  apply seq_plain; exact do_move rfl; exact rfl
  simp only [bne_self_eq_false]
  apply seq_guard (hd := rfl) (hl := rfl); exact do_move rfl; exact rfl
  apply seq_guard (hd := rfl) (hl := rfl); exact do_move rfl; exact rfl
  apply seq_guard (hd := rfl) (hl := rfl); exact do_neg rfl (by omega); exact rfl
  apply seq_guard (hd := rfl) (hl := rfl); exact do_binInt rfl rfl rfl trivial; exact rfl
  apply seq_plain; exact do_pick_f rfl rfl; exact rfl
  apply seq_plain; exact do_move rfl; exact rfl
  simp only [bne_self_eq_false]
  apply seq_guard (hd := rfl) (hl := rfl); exact do_move rfl; exact rfl
  apply seq_guard (hd := rfl) (hl := rfl); exact do_binInt rfl rfl rfl trivial; exact rfl
  apply seq_plain; exact do_pick_f rfl rfl; exact rfl
  apply seq_nil
  refine ct_cond_f rfl rfl ?_
  apply ct_skip
  apply ct_seq
  apply ct_region
  apply seq_plain; exact do_assign rfl; exact rfl
  apply seq_nil
  apply ct_seq
  apply ct_seq
  apply ct_region
  apply seq_plain; exact do_move rfl; exact rfl
  apply seq_plain; exact do_lenS rfl rfl rfl; exact rfl
  apply seq_plain; exact do_move rfl; exact rfl
  apply seq_nil
  apply ct_block
  apply ct_loop
  refine lt_meas (α := Nat × List (Option ABlk)) (fun a => [(38, I ((T.take a.1).map (·.2)).sum), (248, .slice pT T.length T.length), (249, I T.length), (250, I a.1)]) (fun a => ext h3 lo a.2) (fun a => a.1 ≤ T.length) (fun a => T.length - a.1) (fun a hx ih => ?_) (0, []) (Nat.zero_le _) (by repeat (first | exact sub_nil | apply sub_cons rfl)) (.refl _)
  obtain ⟨j, M⟩ := a
  simp only at hx ih ⊢
  have ih' := fun i' M' a1 a2 => ih (i', M') a1 a2
  simp only at ih'
  clear ih
  apply ct_seq
  apply ct_region
  apply seq_plain; exact do_binInt rfl rfl rfl trivial; exact rfl
  apply seq_nil
  apply ct_seq
  refine ct_cond rfl (fun h1 => ?_) (fun h1 => ?_)
  · simp only [decide_eq_true_eq, Int.ofNat_lt] at h1
    obtain ⟨bT, oT, csT, zT, stT, roT, rfl, hgT, hwT⟩ := sT.out (by intro e; rw [e] at h1; simp at h1)
    have w1 := z3 j (by omega)
    have w2 := z3 (j + 1) (by omega)
    have st : ((T.take (j + 1)).map (·.2)).sum = ((T.take j).map (·.2)).sum + T[j].2 := by
      rw [take_snoc h1, List.map_append, List.sum_append]; simp
    apply ct_skip
    apply ct_seq
    apply ct_block
    apply ct_seq
    apply ct_region
    apply seq_plain; exact do_indexAddrS rfl rfl rfl (by exact idx_nat (by omega)); exact rfl
    apply seq_plain; exact do_load rfl (by exact ext_get_old (by assumption) (by assumption)) rfl (by exact pt_sl (by assumption) (by omega)); exact rfl
    apply seq_newP; exact do_alloc rfl rfl; exact rfl
    apply seq_putC (hc := by assumption); rotate_left; exact do_store rfl rfl (by exact ext_get_new List.getElem?_concat_length) rfl rfl (nb_own _); rotate_left; exact (by simp)
    apply ct_region
    apply seq_plain; exact do_move rfl; exact rfl
    apply seq_plain; exact do_fieldAddr rfl rfl; exact rfl
    apply seq_plain; exact do_load rfl (by exact ext_get_new getSetLast) rfl (by exact rfl); exact rfl
    apply seq_plain; exact do_add rfl rfl (by omega); exact rfl
    apply seq_plain; exact do_assign rfl; exact rfl
    apply seq_nil
    apply ct_region
    apply seq_plain; exact do_succ rfl (by omega); exact rfl
    apply seq_plain; exact do_move rfl; exact rfl
    apply seq_nil
    rw [← st]
    exact lt_to (by repeat (first | exact sub_nil | apply sub_cons rfl)) (.refl _) (ih' (j + 1) _ (by omega) (by omega))
  have h1 : j = T.length := by simp at h1; omega
  subst h1
  rw [List.take_length, z2]
  apply ct_exit
  apply exit_eq; exact rfl
  apply ct_seq
  apply ct_region
  apply seq_plain; exact do_move rfl; exact rfl
  apply seq_plain; exact do_binInt rfl rfl rfl trivial; exact rfl
  apply seq_plain; exact do_move rfl; exact rfl
  apply seq_gcall (hg := rfl) (hl := rfl) (ht := rfl); exact aw _ (ext_Ext hc3); exact rfl
  apply seq_plain; exact do_pick_t rfl rfl; exact rfl
  apply seq_plain; exact do_assign rfl; exact rfl
  apply seq_nil
  apply ct_ret
  exact fin_flatB hc hc3 hE rfl rfl ⟨rfl, rfl⟩
end Go.Proofs.YtfjihdlpohljbaaGreat
