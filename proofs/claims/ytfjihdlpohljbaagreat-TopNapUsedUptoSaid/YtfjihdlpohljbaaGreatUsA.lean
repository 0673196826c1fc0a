/- TopNapUsed: the law's own walk (seat of TopNapTill, TopNapQueue, TopNapUsed). -/
import Derived.Test.YtfjihdlpohljbaaGreatUsM
import Derived.Test.YtfjihdlpohljbaaGreatNpA
import Derived.Test.YtfjihdlpohljbaaGreatAsF
import Derived.Test.YtfjihdlpohljbaaGreatBgH
import Derived.Test.YtfjihdlpohljbaaGreatEitM
import Derived.Test.YtfjihdlpohljbaaGreatDyL
import Derived.Test.YtfjihdlpohljbaaGreatElJ
import Derived.Test.YtfjihdlpohljbaaGreatHaC
import Derived.Test.YtfjihdlpohljbaaGreatPnH
import Derived.Test.YtfjihdlpohljbaaGreatSxU
import Derived.Test.YtfjihdlpohljbaaGreatSxK
import Derived.Test.YtfjihdlpohljbaaGreatPrL
noncomputable section
namespace Go.Proofs.YtfjihdlpohljbaaGreat
open Go Go.Den
set_option maxRecDepth 100000

/-- an input that is looked at -/
structure UsIn (t : List Tb) (l : List Bk) : Prop where
  tl : t.length ≤ 6
  ll : l.length ≤ 10
  both : bothE t l = 0
set_option maxHeartbeats 16000000 in
theorem used_w {H : AHeap} {q r : Option Addr} {c d : Nat} {t : List Tb} {l : List Bk} (haw : ∀ h, Ext H h → Ret Tryz.prog 10 [] h (.bool true) h) (hs : SlAt H 2 tb q t) (hlow : LowS q c t.length) (hn : t.length ≤ 1048576) (hr : SlAt H 4 bk r l) (hlow2 : LowS r d l.length) (hq : OldS H r) (hm : l.length ≤ 1048576) :
    Ret Tryz.prog 5 [.slice q t.length c, .slice r l.length d] H (.bool true) H := by
  refine fn_start Tryz.func5 rfl rfl rfl fun hc => ?_
  have cO := fun L => nown_c (H := ext H H.fresh L) (c := c) (d := d) (hs.ext (ext_Ext hc)) (by omega) (hr.ext (ext_Ext hc)) (by omega)
  simp only [lstH_ext, ext_fresh] at cO
  apply ct_seq
  apply ct_region
  apply seq_plain; exact do_assign rfl; exact rfl
  apply seq_nil
  apply ct_seq
  apply ct_region
  apply seq_plain; exact do_move rfl; exact rfl
  apply seq_plain; exact do_move rfl; exact rfl
  apply seq_call (ht := rfl); exact cO []; exact rfl
  obtain ⟨x, hx⟩ : ∃ x, x = lstP (nb H ([] : List (Option ABlk)).length) t := ⟨_, rfl⟩
  obtain ⟨y, hy⟩ : ∃ y, y = lstP (nb H (([] : List (Option ABlk)) ++ lstL 2 tb t).length) l := ⟨_, rfl⟩
  have s1 : SlAt (ext H H.fresh ([] ++ lstL 2 tb t ++ lstL 4 bk l)) 4 bk y l := by rw [hy]; exact lst_slAt bk_len
  have s2 : SlAt (ext H H.fresh ([] ++ lstL 2 tb t ++ lstL 4 bk l)) 2 tb x t := by
    have := lst_slAt (H := H) (lo := H.fresh) (L := []) (m := 2) (f := tb) (l := t) tb_len
    rw [hx]
    exact this.ext (ext_more hc)
  refine seqL_to (l' := [(0, .slice q t.length c), (1, .slice r l.length d), (29, .tuple ⟨[.slice x t.length t.length, .slice y l.length l.length]⟩)]) (by rw [hx, hy]; (repeat (first | exact sub_nil | apply sub_cons rfl))) ext_base (by simp) ?_
  obtain ⟨h, hh⟩ : ∃ h, h = ext H H.fresh ([] ++ lstL 2 tb t ++ lstL 4 bk l) := ⟨_, rfl⟩
  have hc' : Closed h := by rw [hh]; exact ext_closed hc
  have hE : Ext H h := by rw [hh]; exact ext_Ext hc
  have hq' : OldS h r := by rw [hh]; exact hq.ext
  rw [← hh] at s1 s2 ⊢
  clear hh hx hy cO
  refine seq_anyLo fun lo => ?_
  have aw := fun h2 (hE2 : Ext h h2) => haw _ (hE.trans hE2)
  apply seq_plain; exact do_move rfl; exact rfl
  apply seq_plain; exact do_extract rfl rfl; exact rfl
  apply seq_plain; exact do_extract rfl rfl; exact rfl
  apply seq_plain; exact do_assign rfl; exact rfl
  apply seq_plain; exact do_assign rfl; exact rfl
  apply seq_nil
  apply ct_seq
  apply ct_seq
  apply ct_region
  apply seq_plain; exact do_move rfl; exact rfl
  apply seq_plain; exact do_lenS rfl rfl rfl; exact rfl
  apply seq_plain; exact do_binInt rfl rfl rfl trivial; exact rfl
  apply seq_plain; exact do_move rfl; exact rfl
  refine seq_JX (ds := []) (α := Bool) (fun a => [(0, .slice q t.length c), (1, .slice r l.length d), (51, .bool a)]) (fun _ => ext h lo []) (fun a => a = false → UsIn t l) ?_ (fun Z ha => ?_)
  · refine seq_gsplit rfl rfl (fun u1 => ?_) (fun u1 => ?_)
    · apply seq_passed (hd := rfl) (hl := rfl) (hb := rfl); exact rfl
      apply seq_passed (hd := rfl) (hl := rfl) (hb := rfl); exact rfl
      apply seq_passed (hd := rfl) (hl := rfl) (hb := rfl); exact rfl
      apply seq_plain; exact do_pick_t rfl rfl; exact rfl
      apply seq_plain; exact do_move rfl; exact rfl
      apply seq_passed (hd := rfl) (hl := rfl) (hb := rfl); exact rfl
      apply seq_passed (hd := rfl) (hl := rfl) (hb := rfl); exact rfl
      apply seq_passed (hd := rfl) (hl := rfl) (hb := rfl); exact rfl
      apply seq_passed (hd := rfl) (hl := rfl) (hb := rfl); exact rfl
      apply seq_plain; exact do_pick_t rfl rfl; exact rfl
      apply seq_plain; exact do_move rfl; exact rfl
      apply seq_passed (hd := rfl) (hl := rfl) (hb := rfl); exact rfl
      apply seq_passed (hd := rfl) (hl := rfl) (hb := rfl); exact rfl
      apply seq_passed (hd := rfl) (hl := rfl) (hb := rfl); exact rfl
      apply seq_passed (hd := rfl) (hl := rfl) (hb := rfl); exact rfl
      apply seq_plain; exact do_pick_t rfl rfl; exact rfl
      apply seq_nil
      exact jx_of true (fun h => by cases h) (by repeat (first | exact sub_nil | apply sub_cons rfl)) rfl
    have u1 : ¬ (t.length : Int) > 6 := of_decide_eq_false u1
    apply seq_guard (hd := rfl) (hl := rfl); exact do_move rfl; exact rfl
    apply seq_guard (hd := rfl) (hl := rfl); exact do_lenS rfl rfl rfl; exact rfl
    apply seq_guard (hd := rfl) (hl := rfl); exact do_binInt rfl rfl rfl trivial; exact rfl
    apply seq_plain; exact do_pick_f rfl rfl; exact rfl
    apply seq_plain; exact do_move rfl; exact rfl
    refine seq_gsplit rfl rfl (fun u2 => ?_) (fun u2 => ?_)
    · apply seq_passed (hd := rfl) (hl := rfl) (hb := rfl); exact rfl
      apply seq_passed (hd := rfl) (hl := rfl) (hb := rfl); exact rfl
      apply seq_passed (hd := rfl) (hl := rfl) (hb := rfl); exact rfl
      apply seq_passed (hd := rfl) (hl := rfl) (hb := rfl); exact rfl
      apply seq_plain; exact do_pick_t rfl rfl; exact rfl
      apply seq_plain; exact do_move rfl; exact rfl
      apply seq_passed (hd := rfl) (hl := rfl) (hb := rfl); exact rfl
      apply seq_passed (hd := rfl) (hl := rfl) (hb := rfl); exact rfl
      apply seq_passed (hd := rfl) (hl := rfl) (hb := rfl); exact rfl
      apply seq_passed (hd := rfl) (hl := rfl) (hb := rfl); exact rfl
      apply seq_plain; exact do_pick_t rfl rfl; exact rfl
      apply seq_nil
      exact jx_of true (fun h => by cases h) (by repeat (first | exact sub_nil | apply sub_cons rfl)) rfl
    have u2 : ¬ (l.length : Int) > 10 := of_decide_eq_false u2
    apply seq_guard (hd := rfl) (hl := rfl); exact do_move rfl; exact rfl
    apply seq_guard (hd := rfl) (hl := rfl); exact do_move rfl; exact rfl
    apply seq_gcall (hg := rfl) (hl := rfl) (ht := rfl); exact short_c (r := []) (c := t.length) (d := l.length) (e := 0) (s2.ext (ext_Ext hc')) (by omega) (s1.ext (ext_Ext hc')) (by omega) (SlAt.nil (p := none)) (by simp); exact rfl
    apply seq_guard (hd := rfl) (hl := rfl); exact do_unOp rfl rfl; exact rfl
    apply seq_plain; exact do_pick_f rfl rfl; exact rfl
    apply seq_plain; exact do_move rfl; exact rfl
    refine seq_gsplit rfl rfl (fun u4 => ?_) (fun u4 => ?_)
    · apply seq_passed (hd := rfl) (hl := rfl) (hb := rfl); exact rfl
      apply seq_passed (hd := rfl) (hl := rfl) (hb := rfl); exact rfl
      apply seq_passed (hd := rfl) (hl := rfl) (hb := rfl); exact rfl
      apply seq_passed (hd := rfl) (hl := rfl) (hb := rfl); exact rfl
      apply seq_plain; exact do_pick_t rfl rfl; exact rfl
      apply seq_nil
      exact jx_of true (fun h => by cases h) (by repeat (first | exact sub_nil | apply sub_cons rfl)) rfl
    apply seq_guard (hd := rfl) (hl := rfl); exact do_move rfl; exact rfl
    apply seq_guard (hd := rfl) (hl := rfl); exact do_move rfl; exact rfl
    apply seq_gcall (hg := rfl) (hl := rfl) (ht := rfl); exact refCheck_c (s2.ext (ext_Ext hc')) (by omega) (s1.ext (ext_Ext hc')) (by omega); exact rfl
    apply seq_guard (hd := rfl) (hl := rfl); exact do_binInt rfl rfl rfl trivial; exact rfl
    apply seq_plain; exact do_pick_f rfl rfl; exact rfl
    apply seq_nil
    refine jx_of (bothE t l != 0) (fun h => ?_) (by repeat (first | exact sub_nil | apply sub_cons rfl)) rfl
    exact ⟨by omega, by omega, by simpa using h⟩
  refine ct_cond rfl (fun u0 => ?_) (fun u0 => ?_)
  · apply ct_seq
    apply ct_region
    apply seq_call (ht := rfl); exact aw _ (ext_Ext hc'); exact rfl
    apply seq_plain; exact do_assign rfl; exact rfl
    apply seq_nil
    apply ct_ret
    exact fin_flatB hc hc' hE rfl rfl ⟨rfl, rfl⟩
  have hin := ha u0
  clear u0 ha s1 s2
  have m1 := hin.tl
  have m2 := hin.ll
  have hb := hin.both
  clear hin
  have hse := hs.ext hE
  have hre := hr.ext hE
  obtain ⟨X1, pa, na, ev1, eh1, ok1, bad1⟩ := asg_state (h := h) (lo := lo) (L := []) t l
  have ca := Assign_c (c := c) (d := d) (hse.ext (ext_Ext hc' (lo := lo) (L := []))) hlow (by omega) (hre.ext (ext_Ext hc')) hlow2 hq'.ext (by omega)
  rw [ev1, eh1] at ca
  obtain ⟨X, hX⟩ : ∃ X, X = asgX t l := ⟨_, rfl⟩
  rw [← hX] at ca ok1 bad1
  apply ct_skip
  apply ct_seq
  apply ct_region
  apply seq_plain; exact do_move rfl; exact rfl
  apply seq_plain; exact do_move rfl; exact rfl
  apply seq_call (ht := rfl); exact ca; exact rfl
  refine seqL_to (l' := [(0, .slice q t.length c), (1, .slice r l.length d), (56, .tuple ⟨[.slice pa na na, I X]⟩)]) (by repeat (first | exact sub_nil | apply sub_cons rfl)) ext_base (by simp) ?_
  obtain ⟨h2, hh2⟩ : ∃ h2, h2 = ext h lo ([] ++ X1) := ⟨_, rfl⟩
  have hq' : OldS h2 r := by rw [hh2]; exact hq'.ext
  have hse : SlAt h2 2 tb q t := by rw [hh2]; exact hse.ext (ext_Ext hc')
  have hre : SlAt h2 4 bk r l := by rw [hh2]; exact hre.ext (ext_Ext hc')
  have hE : Ext H h2 := by rw [hh2]; exact hE.trans (ext_Ext hc')
  have hc' : Closed h2 := by rw [hh2]; exact ext_closed hc'
  have aw := fun h3 (hE2 : Ext h2 h3) => haw _ (hE.trans hE2)
  rw [← hh2] at ok1 ⊢
  refine seq_anyLo fun lo => ?_
  clear hh2 ca ev1 eh1
  apply seq_plain; exact do_move rfl; exact rfl
  apply seq_plain; exact do_extract rfl rfl; exact rfl
  apply seq_plain; exact do_extract rfl rfl; exact rfl
  apply seq_plain; exact do_assign rfl; exact rfl
  apply seq_plain; exact do_assign rfl; exact rfl
  apply seq_nil
  apply ct_seq
  apply ct_seq
  apply ct_region
  apply seq_plain; exact do_move rfl; exact rfl
  apply seq_plain; exact do_binInt rfl rfl rfl trivial; exact rfl
  apply seq_nil
  refine ct_cond rfl (fun u => ?_) (fun u => ?_)
  · have u : X ≠ 0 := by simpa using u
    have e23 : X = 23 := by rw [hX]; exact (eit_bad hb (hX ▸ u)).1
    rw [e23]
    apply ct_seq
    apply ct_region
    apply seq_plain; exact do_move rfl; exact rfl
    apply seq_plain; exact do_binInt rfl rfl rfl trivial; exact rfl
    apply seq_plain; exact do_move rfl; exact rfl
    apply seq_gcall (hg := rfl) (hl := rfl) (ht := rfl); exact aw _ (ext_Ext hc'); exact rfl
    apply seq_plain; exact do_pick_t rfl rfl; exact rfl
    apply seq_plain; exact do_assign rfl; exact rfl
    apply seq_nil
    apply ct_ret
    exact fin_flatB hc hc' hE rfl rfl ⟨rfl, rfl⟩
  have u : X = 0 := by simpa using u
  obtain ⟨_, hAsi⟩ := eit_good hb (hX ▸ u)
  obtain ⟨rfl, sA⟩ := ok1 u
  obtain ⟨A, hAe⟩ : ∃ A, A = asgV t l := ⟨_, rfl⟩
  have hP := hAsi.done
  rw [← hAe] at sA hP
  have hAl := hP.len
  have hok := (both_ok hb).ok
  have cz := cas_zero hb hP
  clear hAsi hAe ok1 bad1
  have hlb := lenB_in hb
  -- Used and Worn
  have cU := Used_c (H := ext h2 lo []) (c := c) (d := d) (e := l.length) (A := A) (hse.ext (ext_Ext hc')) hlow (by omega) (hre.ext (ext_Ext hc')) hlow2 (by omega) (sA.ext (ext_Ext hc')) (by omega)
  unfold usedVal usedH at cU
  rw [if_pos cz, if_pos cz, cz, ext_add, ext_fresh, hAl] at cU
  obtain ⟨U, hU⟩ : ∃ U, U = usedV t l A := ⟨_, rfl⟩
  have hUl : U.length = t.length := by rw [hU]; exact useI_len
  rw [← hU] at cU
  have wx : ∀ lim : Int, 1 ≤ lim → lim ≤ 999999999 → wornX t l A lim = 0 := fun lim g1 g2 => by
    unfold wornX
    have e : outL lim 1 999999999 = false := by unfold outL; exact decide_eq_false (by omega)
    rw [cz, e]; rfl
  have cW : ∀ {h3 : AHeap} {lo : Nat} {L : List (Option ABlk)} (_ : Closed h3) (_ : Ext h2 h3) (lim : Int), 1 ≤ lim → lim ≤ 999999999 → Ret Tryz.prog 27 [.slice q t.length c, .slice r l.length d, .slice pa l.length l.length, I lim] (ext h3 lo L) (.tuple ⟨[lstV (nb h3 L.length) (wornV t l A lim), I 0]⟩) (ext h3 lo (L ++ lstL 1 i1 (wornV t l A lim))) := fun {h3 lo L} hc3 hE3 lim g1 g2 => by
    have := Worn_c (H := ext h3 lo L) (c := c) (d := d) (e := l.length) (A := A) (lim := lim) ((hse.ext hE3).ext (ext_Ext hc3)) hlow (by omega) ((hre.ext hE3).ext (ext_Ext hc3)) hlow2 (by omega) ((sA.ext hE3).ext (ext_Ext hc3)) (by omega) (fun _ => by omega)
    have eo : wornO t l A lim = wornV t l A lim := if_neg (by rw [wx lim g1 g2]; simp)
    rw [wx lim g1 g2, eo, lstH_ext, ext_fresh, hAl] at this
    exact this
  have wl : ∀ lim, (wornV t l A lim).length = t.length := fun lim => by unfold wornV; simp
  have wg : ∀ lim n (g : n < (wornV t l A lim).length), (wornV t l A lim)[n] = wornK l A lim n := fun lim n g => by simp [wornV]
  apply ct_skip
  apply ct_seq
  apply ct_region
  apply seq_plain; exact do_move rfl; exact rfl
  apply seq_plain; exact do_move rfl; exact rfl
  apply seq_plain; exact do_move rfl; exact rfl
  apply seq_call (ht := rfl); exact cU; exact rfl
  clear cU
  obtain ⟨Y0, hY0⟩ : ∃ Y0 : List (Option ABlk), Y0 = [] ++ [some (.cells (U.map I) 1 false false)] := ⟨_, rfl⟩
  have fU : Y0[0]? = some (some (.cells (U.map I) 1 false false)) := by rw [hY0]; rfl
  rw [← hY0]
  clear hY0
  apply seq_plain; exact do_move rfl; exact rfl
  apply seq_plain; exact do_extract rfl rfl; exact rfl
  apply seq_plain; exact do_extract rfl rfl; exact rfl
  apply seq_plain; exact do_assign rfl; exact rfl
  apply seq_plain; exact do_assign rfl; exact rfl
  apply seq_nil
  apply ct_seq
  apply ct_region
  apply seq_plain; exact do_move rfl; exact rfl
  apply seq_plain; exact do_move rfl; exact rfl
  apply seq_plain; exact do_move rfl; exact rfl
  apply seq_call (ht := rfl); exact cW hc' (.refl _) 1 (by omega) (by omega); exact rfl
  obtain ⟨W, hW⟩ : ∃ W, W = wornV t l A 1 := ⟨_, rfl⟩
  have hWl : W.length = t.length := by rw [hW]; exact wl 1
  have hWg : ∀ n (g : n < W.length), W[n] = wornK l A 1 n := by rw [hW]; exact wg 1
  rw [← hW]
  obtain ⟨pW, hpW⟩ : ∃ pW, pW = lstP (nb h2 Y0.length) W := ⟨_, rfl⟩
  have sW : SlAt (ext h2 lo (Y0 ++ lstL 1 i1 W)) 1 i1 pW W := by rw [hpW]; exact lst_slAt (fun _ => rfl)
  have sU : SlAt (ext h2 lo (Y0 ++ lstL 1 i1 W)) 1 i1 (some ⟨nb h2 0, 0, none⟩) U := slAt_map (ext_get_new (getApp fU))
  obtain ⟨pU, hpU⟩ : ∃ pU : Option Addr, pU = some ⟨nb h2 0, 0, none⟩ := ⟨_, rfl⟩
  rw [← hpU] at sU
  refine seqL_to (l' := [(0, .slice q t.length c), (1, .slice r l.length d), (7, .slice pa l.length l.length), (9, .slice pU t.length t.length), (10, I 0), (77, .tuple ⟨[.slice pW t.length t.length, I 0]⟩)]) (by rw [hpU, hpW, ← hWl]; (repeat (first | exact sub_nil | apply sub_cons rfl))) ext_base (by simp) ?_
  obtain ⟨h3, hh3⟩ : ∃ h3, h3 = ext h2 lo (Y0 ++ lstL 1 i1 W) := ⟨_, rfl⟩
  have e23 : Ext h2 h3 := by rw [hh3]; exact ext_Ext hc'
  have hc3 : Closed h3 := by rw [hh3]; exact ext_closed hc'
  have hse : SlAt h3 2 tb q t := hse.ext e23
  have hre : SlAt h3 4 bk r l := hre.ext e23
  have sA : SlAt h3 1 i1 pa A := sA.ext e23
  have hE : Ext H h3 := hE.trans e23
  have aw := fun h4 (hE2 : Ext h3 h4) => haw _ (hE.trans hE2)
  rw [← hh3] at sU sW ⊢
  refine seq_anyLo fun lo => ?_
  clear hh3 hpW hpU hW fU
  apply seq_plain; exact do_move rfl; exact rfl
  apply seq_plain; exact do_extract rfl rfl; exact rfl
  apply seq_plain; exact do_extract rfl rfl; exact rfl
  apply seq_plain; exact do_assign rfl; exact rfl
  apply seq_plain; exact do_assign rfl; exact rfl
  apply seq_nil
  apply ct_seq
  apply ct_seq
  apply ct_region
  apply seq_plain; exact do_move rfl; exact rfl
  apply seq_plain; exact do_move rfl; exact rfl
  apply seq_plain; exact do_add rfl rfl (by omega); exact rfl
  apply seq_plain; exact do_binInt rfl rfl rfl trivial; exact rfl
  apply seq_plain; exact do_move rfl; exact rfl
  apply seq_guard (hd := rfl) (hl := rfl); exact do_move rfl; exact rfl
  apply seq_guard (hd := rfl) (hl := rfl); exact do_lenS rfl rfl rfl; exact rfl
  apply seq_guard (hd := rfl) (hl := rfl); exact do_move rfl; exact rfl
  apply seq_guard (hd := rfl) (hl := rfl); exact do_lenS rfl rfl rfl; exact rfl
  apply seq_guard (hd := rfl) (hl := rfl); exact do_binInt rfl rfl rfl trivial; exact rfl
  apply seq_plain; exact do_pick_f rfl rfl; exact rfl
  apply seq_plain; exact do_move rfl; exact rfl
  simp only [bne_self_eq_false]
  apply seq_guard (hd := rfl) (hl := rfl); exact do_move rfl; exact rfl
  apply seq_guard (hd := rfl) (hl := rfl); exact do_lenS rfl rfl rfl; exact rfl
  apply seq_guard (hd := rfl) (hl := rfl); exact do_move rfl; exact rfl
  apply seq_guard (hd := rfl) (hl := rfl); exact do_lenS rfl rfl rfl; exact rfl
  apply seq_guard (hd := rfl) (hl := rfl); exact do_binInt rfl rfl rfl trivial; exact rfl
  apply seq_plain; exact do_pick_f rfl rfl; exact rfl
  apply seq_plain; exact do_move rfl; exact rfl
  simp only [bne_self_eq_false]
  apply seq_guard (hd := rfl) (hl := rfl); exact do_move rfl; exact rfl
  apply seq_guard (hd := rfl) (hl := rfl); exact do_lenS rfl rfl rfl; exact rfl
  apply seq_guard (hd := rfl) (hl := rfl); exact do_move rfl; exact rfl
  apply seq_guard (hd := rfl) (hl := rfl); exact do_lenS rfl rfl rfl; exact rfl
  apply seq_guard (hd := rfl) (hl := rfl); exact do_binInt rfl rfl rfl trivial; exact rfl
  apply seq_plain; exact do_pick_f rfl rfl; exact rfl
  apply seq_nil
  refine ct_cond_f rfl (by simp) ?_
  apply ct_skip
  apply ct_seq
  apply ct_region
  apply seq_newM; exact do_makeMap0; exact rfl
  apply seq_plain; exact do_assign rfl; exact rfl
  apply seq_nil
  apply ct_seq
  apply ct_seq
  apply ct_region
  apply seq_plain; exact do_move rfl; exact rfl
  apply seq_plain; exact do_lenS rfl rfl rfl; exact rfl
  apply seq_plain; exact do_move rfl; exact rfl
  apply seq_nil
  apply ct_block
  apply ct_loop
  have hUb : ∀ y ∈ U, 0 ≤ y ∧ y ≤ 999990 := fun y hy => by
    have := useI_bd (A := A) (n := t.length) hlb l.length y (by rw [hU] at hy; exact hy)
    omega
  have hUo : ∀ n (g : n < U.length), U[n] = sumB (ownB l A n l.length) := fun n g => by
    have h0 : ∀ (j : Nat) (h : j < A.length), 0 ≤ A[j] := fun j h => by
      obtain ⟨k, e1, _⟩ := hP.kd j (by omega)
      rw [List.getElem?_eq_getElem h] at e1
      rw [Option.some.inj e1]; omega
    have := useI_own (n := t.length) h0 hAl.symm l.length (Nat.le_refl _) n (by omega)
    simp only [hU]
    exact this
  have hUk : ∀ k, tabK t U k t.length = bookK l k l.length := fun k => by rw [hU]; exact use_kind hP k l.length (Nat.le_refl _)
  clear hU
  refine lt_meas (α := Nat × List (ByteArray × Int) × List (Option ABlk)) (fun a => [(0, .slice q t.length c), (1, .slice r l.length d), (7, .slice pa l.length l.length), (9, .slice pU t.length t.length), (11, .slice pW t.length t.length), (13, .map (some (nb h3 0))), (106, .slice q t.length c), (107, I t.length), (108, I a.1)]) (fun a => ext h3 lo a.2.2) (fun a => a.1 ≤ t.length ∧ a.2.2[0]? = some (some (pairM strV (fun n : Int => I n) a.2.1)) ∧ (a.2.1.map (·.1)).Nodup ∧ ∀ k, (getK a.2.1 k).getD 0 = tabK t U k a.1) (fun a => t.length - a.1) (fun a ha ih => ?_) (0, [], [some (.map [] 0 false)]) ⟨Nat.zero_le _, rfl, .nil, fun _ => rfl⟩ (by repeat (first | exact sub_nil | apply sub_cons rfl)) (.refl _)
  obtain ⟨n, ms, L⟩ := a
  obtain ⟨hn6, hL, hnd, hms⟩ := ha
  simp only at hn6 hL hnd hms ih ⊢
  have ih' := fun i' m' L' a1 a2 a3 a4 a5 => ih (i', m', L') a1 ⟨a2, a3, a4, a5⟩
  simp only at ih'
  clear ih
  apply ct_seq
  apply ct_region
  apply seq_plain; exact do_binInt rfl rfl rfl trivial; exact rfl
  apply seq_nil
  apply ct_seq
  refine ct_cond rfl (fun h1 => ?_) (fun h1 => ?_)
  · simp only [decide_eq_true_eq, Int.ofNat_lt] at h1
    have h1U : n < U.length := by omega
    have h1W : n < W.length := by omega
    obtain ⟨b6, o6, cs6, z6, st6, ro6, rfl, hg6, hw6⟩ := hse.out (by intro e; rw [e] at h1; simp at h1)
    obtain ⟨b7, o7, cs7, z7, st7, ro7, rfl, hg7, hw7⟩ := sU.out (by intro e; rw [e] at h1U; simp at h1U)
    obtain ⟨b8, o8, cs8, z8, st8, ro8, rfl, hg8, hw8⟩ := sW.out (by intro e; rw [e] at h1W; simp at h1W)
    have v1 := tabK_bd (t := t) (u := U) (k := t[n].kind) (by omega) hUb n
    rw [← hms] at v1
    have v2 := hUb _ (List.getElem_mem h1U)
    have v3 := tabK_succ (k := t[n].kind) h1 h1U
    have msn : ∀ k, (getK (putK ms t[n].kind ((getK ms t[n].kind).getD 0 + U[n])) k).getD 0 = tabK t U k (n + 1) := fun k => by
      rw [getK_put, tabK_succ h1 h1U]
      by_cases e : t[n].kind = k
      · rw [if_pos e, if_pos e, Option.getD_some, hms, e]
      · rw [if_neg e, if_neg e, hms, Int.add_zero]
    clear v3
    apply ct_skip
    apply ct_seq
    apply ct_block
    apply ct_seq
    apply ct_region
    apply seq_plain; exact do_move rfl; exact rfl
    apply seq_plain; exact do_indexAddrS rfl rfl rfl (by exact idx_nat (by omega)); exact rfl
    apply seq_plain; exact do_load rfl (by exact ext_get_old (by assumption) (by assumption)) rfl (by exact pt_sl (by assumption) (by omega)); exact rfl
    apply seq_newP; exact do_alloc rfl rfl; exact rfl
    apply seq_plain; exact do_assign rfl; exact rfl
    apply seq_putC (hc := by assumption); rotate_left; exact do_store rfl rfl (by exact ext_get_new List.getElem?_concat_length) rfl rfl (nb_own _); rotate_left; exact (by simp)
    apply ct_seq
    rw [set_mid rfl]
    refine ct_to (l' := [(0, .slice (some ⟨b6, o6, none⟩) t.length c), (1, .slice r l.length d), (7, .slice pa l.length l.length), (9, .slice (some ⟨b7, o7, none⟩) t.length t.length), (11, .slice (some ⟨b8, o8, none⟩) t.length t.length), (13, .map (some (nb h3 0))), (14, I n), (15, .pointer (some ⟨nb h3 L.length, 0, none⟩)), (106, .slice (some ⟨b6, o6, none⟩) t.length c), (107, I t.length), (108, I n)]) (h' := ext h3 lo (L ++ [some (.cells (tb t[n]) 0 false false)])) (by repeat (first | exact sub_nil | apply sub_cons rfl)) (.refl _) ?_
    have g0 := getApp (m := [some (ABlk.cells (tb t[n]) 0 false false)]) hL
    have gx : (L ++ [some (ABlk.cells (tb t[n]) 0 false false)])[L.length]? = some (some (.cells (tb t[n]) 0 false false)) := List.getElem?_concat_length
    obtain ⟨k, hkk⟩ : ∃ k, k = L.length := ⟨_, rfl⟩
    obtain ⟨L1, hL1⟩ : ∃ L1, L1 = L ++ [some (ABlk.cells (tb t[n]) 0 false false)] := ⟨_, rfl⟩
    rw [← hL1] at g0 gx ⊢
    rw [← hkk] at gx ⊢
    have hlt0 : 0 < L1.length := (List.getElem?_eq_some_iff.1 g0).1
    clear hL1 hkk hL
    apply ct_draw (by assumption); decide +kernel
    apply sd_plain (hfree := rfl); intro _; exact do_move rfl; exact rfl
    apply sd_plain (hfree := rfl); intro _; exact do_fieldAddr rfl rfl; exact rfl
    apply sd_look (hfree := rfl); exact do_load rfl (by exact ext_get_new (getApp (by assumption))) rfl (by exact rfl); exact rfl
    apply sd_look (hfree := rfl); exact do_pairGet (f := strV) (g := fun n : Int => I n) (ks := ms) (a := t[n].kind) (z := I 0) (v := I ((getK ms t[n].kind).getD 0)) rfl rfl (by exact ext_get_new (by simpa using g0)) rfl rfl keyStr (by cases getK ms t[n].kind <;> rfl); exact rfl
    apply sd_plain (hfree := rfl); intro _; exact do_move rfl; exact rfl
    apply sd_plain (hfree := rfl); intro _; exact do_move rfl; exact rfl
    apply sd_plain (hfree := rfl); intro _; exact do_indexAddrS rfl rfl rfl (by exact idx_nat (by omega)); exact rfl
    apply sd_look (hfree := rfl); exact do_load rfl (by exact ext_get_old (by assumption) (by assumption)) rfl (by exact pt_sl0 (by assumption) (by omega)); exact rfl
    apply sd_plain (hfree := rfl); intro _; exact do_add rfl rfl (by omega); exact rfl
    refine sd_putQ (k := 0) rfl (by decide +kernel) hc3 (by simpa using hlt0) (do_pairPut (f := strV) (g := fun n : Int => I n) (ks := ms) (a := t[n].kind) (b := (getK ms t[n].kind).getD 0 + U[n]) rfl rfl rfl (ext_get_new (by simpa using g0)) rfl keyStr (nb_own _)) (fun L3 l3 o3 k3 => ?_)
    apply sd_nil
    apply ct_seq
    apply ct_region
    apply seq_plain; exact do_assign rfl; exact rfl
    apply seq_plain; exact do_assign rfl; exact rfl
    apply seq_nil
    apply ct_seq
    apply ct_seq
    apply ct_region
    apply seq_plain; exact do_move rfl; exact rfl
    apply seq_plain; exact do_lenS rfl rfl rfl; exact rfl
    apply seq_plain; exact do_move rfl; exact rfl
    apply seq_nil
    apply ct_block
    apply ct_loop
    simp only [List.map_nil, List.append_nil]
    obtain ⟨ms', hms'⟩ : ∃ ms', ms' = putK ms t[n].kind ((getK ms t[n].kind).getD 0 + U[n]) := ⟨_, rfl⟩
    have nd' : (ms'.map (·.1)).Nodup := by rw [hms']; exact putK_nodup hnd
    rw [← hms'] at k3 msn
    clear hms' hms hnd o3 l3 gx g0 v1 hlt0
    have hBk : ∀ i, ∀ x ∈ ownB l A n i, BkOk x := fun i x hx => hok x (ownB_mem _ x hx)
    have hFb : ∀ i, -1 ≤ fstB (ownB l A n i) ∧ fstB (ownB l A n i) ≤ 99999 := fun i => fstB_bd fun x hx => ⟨(hBk i x hx).f0, (hBk i x hx).f1⟩
    have hLb : ∀ i, -1 ≤ lstB (ownB l A n i) ∧ lstB (ownB l A n i) ≤ 99999 := fun i => lstB_bd fun x hx => by
      have h1 := (hBk i x hx).f0
      have h2 := (hBk i x hx).lt
      have h3 := (hBk i x hx).t1
      omega
    skip
    refine lt_meas (α := Nat × List (Option ABlk)) (fun a => [(0, .slice (some ⟨b6, o6, none⟩) t.length c), (1, .slice r l.length d), (7, .slice pa l.length l.length), (9, .slice (some ⟨b7, o7, none⟩) t.length t.length), (11, .slice (some ⟨b8, o8, none⟩) t.length t.length), (13, .map (some (nb h3 0))), (14, I n), (16, I (fstB (ownB l A n a.1))), (17, I (lstB (ownB l A n a.1))), (106, .slice (some ⟨b6, o6, none⟩) t.length c), (107, I t.length), (108, I n), (122, .slice r l.length d), (123, I l.length), (124, I a.1)]) (fun a => ext h3 lo a.2) (fun a => a.1 ≤ l.length ∧ a.2[0]? = some (some (pairM strV (fun n : Int => I n) ms'))) (fun a => l.length - a.1) (fun a ha2 ih2 => ?_) (0, L3) ⟨Nat.zero_le _, k3⟩ (by repeat (first | exact sub_nil | apply sub_cons rfl)) (.refl _)
    clear k3 L3
    obtain ⟨j, M⟩ := a
    obtain ⟨hj, hM⟩ := ha2
    simp only at hj hM ih2 ⊢
    have ih2' := fun j' M' a1 a2 a3 => ih2 (j', M') a1 ⟨a2, a3⟩
    simp only at ih2'
    clear ih2
    apply ct_seq
    apply ct_region
    apply seq_plain; exact do_binInt rfl rfl rfl trivial; exact rfl
    apply seq_nil
    apply ct_seq
    refine ct_cond rfl (fun g1 => ?_) (fun g1 => ?_)
    · simp only [decide_eq_true_eq, Int.ofNat_lt] at g1
      have hjA : j < A.length := by omega
      have os := ownB_succ (A := A) (n := n) g1
      rw [List.getElem?_eq_getElem hjA] at os
      have hFj := hFb j
      have hLj := hLb j
      have hxb := hok _ (List.getElem_mem g1)
      have x0 := hxb.f0
      have x1 := hxb.f1
      have x2 := hxb.t0
      have x3 := hxb.t1
      obtain ⟨F, hF⟩ : ∃ F, F = fstB (ownB l A n j) := ⟨_, rfl⟩
      obtain ⟨G, hG⟩ : ∃ G, G = lstB (ownB l A n j) := ⟨_, rfl⟩
      rw [← hF] at hFj ⊢
      rw [← hG] at hLj ⊢
      obtain ⟨b2, o2, cs2, z2, st2, ro2, rfl, hg2, hw2⟩ := hre.out (by intro e; rw [e] at g1; simp at g1)
      obtain ⟨b5, o5, cs5, z5, st5, ro5, rfl, hg5, hw5⟩ := sA.out (by intro e; rw [e] at hjA; simp at hjA)
      apply ct_skip
      apply ct_seq
      apply ct_block
      apply ct_seq
      apply ct_region
      apply seq_plain; exact do_move rfl; exact rfl
      apply seq_plain; exact do_indexAddrS rfl rfl rfl (by exact idx_nat (by omega)); exact rfl
      apply seq_plain; exact do_load rfl (by exact ext_get_old (by assumption) (by assumption)) rfl (by exact pt_sl (by assumption) (by omega)); exact rfl
      apply seq_newP; exact do_alloc rfl rfl; exact rfl
      apply seq_plain; exact do_assign rfl; exact rfl
      apply seq_putC (hc := by assumption); rotate_left; exact do_store rfl rfl (by exact ext_get_new List.getElem?_concat_length) rfl rfl (nb_own _); rotate_left; exact (by simp)
      apply ct_seq
      apply ct_seq
      apply ct_region
      apply seq_plain; exact do_move rfl; exact rfl
      apply seq_plain; exact do_move rfl; exact rfl
      apply seq_plain; exact do_indexAddrS rfl rfl rfl (by exact idx_nat (by omega)); exact rfl
      apply seq_plain; exact do_load rfl (by exact ext_get_old (by assumption) (by assumption)) rfl (by exact pt_sl0 (by assumption) (by omega)); exact rfl
      apply seq_plain; exact do_move rfl; exact rfl
      apply seq_plain; exact do_binInt rfl rfl rfl trivial; exact rfl
      apply seq_nil
      rw [set_mid rfl]
      refine ct_cond rfl (fun y => ?_) (fun y => ?_)
      · have y : (A[j] != (n : Int)) = true := y
        rw [if_neg (by intro e; rw [Option.some.inj e] at y; simp at y)] at os
        apply ct_exit
        apply exit_eq; exact rfl
        apply ct_region
        apply seq_plain; exact do_succ rfl (by omega); exact rfl
        apply seq_plain; exact do_move rfl; exact rfl
        apply seq_nil
        exact lt_to (by rw [os, ← hF, ← hG]; (repeat (first | exact sub_nil | apply sub_cons rfl))) (.refl _) (ih2' (j + 1) _ (by omega) (by omega) (getApp hM))
      · have y : (A[j] != (n : Int)) = false := y
        have y2 : A[j] = (n : Int) := by simpa using y
        rw [if_pos (by rw [y2])] at os
        apply ct_skip
        apply ct_seq
        apply ct_seq
        apply ct_region
        apply seq_plain; exact do_move rfl; exact rfl
        apply seq_plain; exact do_binInt rfl rfl rfl trivial; exact rfl
        apply seq_plain; exact do_move rfl; exact rfl
        refine seq_J [(0, .slice (some ⟨b6, o6, none⟩) t.length c), (1, .slice (some ⟨b2, o2, none⟩) l.length d), (7, .slice (some ⟨b5, o5, none⟩) l.length l.length), (9, .slice (some ⟨b7, o7, none⟩) t.length t.length), (11, .slice (some ⟨b8, o8, none⟩) t.length t.length), (13, .map (some (nb h3 0))), (14, I n), (16, I F), (17, I G), (19, .pointer (some ⟨nb h3 M.length, 0, none⟩)), (106, .slice (some ⟨b6, o6, none⟩) t.length c), (107, I t.length), (108, I n), (122, .slice (some ⟨b2, o2, none⟩) l.length d), (123, I l.length), (124, I j), (142, .bool (decide (F < 0 ∨ l[j].frm < F)))] (ds := []) (h := ext h3 lo (M ++ [some (.cells (bk l[j]) 0 false false)])) ?_ ?_
        · refine seq_gsplit rfl rfl (fun w => ?_) (fun w => ?_)
          · have w : F < 0 := of_decide_eq_true w
            rw [decide_eq_true (show F < 0 ∨ l[j].frm < F from .inl w)]
            apply seq_passed (hd := rfl) (hl := rfl) (hb := rfl); exact rfl
            apply seq_passed (hd := rfl) (hl := rfl) (hb := rfl); exact rfl
            apply seq_passed (hd := rfl) (hl := rfl) (hb := rfl); exact rfl
            apply seq_passed (hd := rfl) (hl := rfl) (hb := rfl); exact rfl
            apply seq_plain; exact do_pick_t rfl rfl; exact rfl
            apply seq_nil
            exact jp_of (by repeat (first | exact sub_nil | apply sub_cons rfl))
          · have w : ¬ F < 0 := of_decide_eq_false w
            have e : decide (F < 0 ∨ l[j].frm < F) = decide (l[j].frm < F) := by simp [w]
            rw [e]
            apply seq_guard (hd := rfl) (hl := rfl); exact do_fieldAddr rfl rfl; exact rfl
            apply seq_guard (hd := rfl) (hl := rfl); exact do_load rfl (by exact ext_get_new List.getElem?_concat_length) rfl (by exact rfl); exact rfl
            apply seq_guard (hd := rfl) (hl := rfl); exact do_move rfl; exact rfl
            apply seq_guard (hd := rfl) (hl := rfl); exact do_binInt rfl rfl rfl trivial; exact rfl
            apply seq_plain; exact do_pick_f rfl rfl; exact rfl
            apply seq_nil
            exact jp_of (by repeat (first | exact sub_nil | apply sub_cons rfl))
        refine ct_JE [(0, .slice (some ⟨b6, o6, none⟩) t.length c), (1, .slice (some ⟨b2, o2, none⟩) l.length d), (7, .slice (some ⟨b5, o5, none⟩) l.length l.length), (9, .slice (some ⟨b7, o7, none⟩) t.length t.length), (11, .slice (some ⟨b8, o8, none⟩) t.length t.length), (13, .map (some (nb h3 0))), (14, I n), (16, I (fstS F l[j])), (17, I G), (19, .pointer (some ⟨nb h3 M.length, 0, none⟩)), (106, .slice (some ⟨b6, o6, none⟩) t.length c), (107, I t.length), (108, I n), (122, .slice (some ⟨b2, o2, none⟩) l.length d), (123, I l.length), (124, I j)] (ds := []) (h := ext h3 lo (M ++ [some (.cells (bk l[j]) 0 false false)])) ?_ ?_
        · unfold fstS
          refine ct_cond rfl (fun w => ?_) (fun w => ?_)
          · rw [if_pos (of_decide_eq_true w)]
            apply ct_region
            apply seq_plain; exact do_fieldAddr rfl rfl; exact rfl
            apply seq_plain; exact do_load rfl (by exact ext_get_new List.getElem?_concat_length) rfl (by exact rfl); exact rfl
            apply seq_plain; exact do_assign rfl; exact rfl
            apply seq_nil
            exact jp_of (by repeat (first | exact sub_nil | apply sub_cons rfl))
          · rw [if_neg (of_decide_eq_false w)]
            apply ct_skip
            exact jp_of (by repeat (first | exact sub_nil | apply sub_cons rfl))
        apply ct_region
        apply seq_plain; exact do_move rfl; exact rfl
        apply seq_plain; exact do_fieldAddr rfl rfl; exact rfl
        apply seq_plain; exact do_load rfl (by exact ext_get_new List.getElem?_concat_length) rfl (by exact rfl); exact rfl
        apply seq_plain; exact do_sub rfl rfl (by omega); exact rfl
        apply seq_plain; exact do_max rfl; exact rfl
        apply seq_plain; exact do_assign rfl; exact rfl
        apply seq_nil
        apply ct_region
        apply seq_plain; exact do_succ rfl (by omega); exact rfl
        apply seq_plain; exact do_move rfl; exact rfl
        apply seq_nil
        exact lt_to (by rw [os, fstB_snoc, lstB_snoc, ← hF, ← hG]; (repeat (first | exact sub_nil | apply sub_cons rfl))) (.refl _) (ih2' (j + 1) _ (by omega) (by omega) (getApp hM))
    have g1 : j = l.length := by simp at g1; omega
    subst g1
    clear ih2' hj
    have us := us_tab hok hP n
    have eW : W[n] = fstB (ownB l A n l.length) := by rw [hWg n h1W, us.fst]
    have eU := hUo n h1U
    have hFj := hFb l.length
    have hLj := hLb l.length
    have u1 := us.pos
    have u2 := us.lst
    rw [← eU] at u1 u2
    clear hFb hLb hBk us
    obtain ⟨F, hF⟩ : ∃ F, F = fstB (ownB l A n l.length) := ⟨_, rfl⟩
    obtain ⟨G, hG⟩ : ∃ G, G = lstB (ownB l A n l.length) := ⟨_, rfl⟩
    rw [← hF] at eW hFj u1 ⊢
    rw [← hG] at hLj u2 ⊢
    clear hF hG
    have e5 : (decide (U[n] > 0) != decide (F ≥ 0)) = false := by rw [u1]; simp
    apply ct_exit
    apply exit_eq; exact rfl
    apply ct_seq
    apply ct_seq
    apply ct_region
    apply seq_plain; exact do_move rfl; exact rfl
    apply seq_plain; exact do_move rfl; exact rfl
    apply seq_plain; exact do_indexAddrS rfl rfl rfl (by exact idx_nat (by omega)); exact rfl
    apply seq_plain; exact do_load rfl (by exact ext_get_old (by assumption) (by assumption)) rfl (by exact pt_sl0 (by assumption) (by omega)); exact rfl
    apply seq_plain; exact do_move rfl; exact rfl
    apply seq_plain; exact do_binInt rfl rfl rfl trivial; exact rfl
    apply seq_plain; exact do_move rfl; exact rfl
    rw [eW]
    simp only [bne_self_eq_false]
    apply seq_guard (hd := rfl) (hl := rfl); exact do_move rfl; exact rfl
    apply seq_guard (hd := rfl) (hl := rfl); exact do_move rfl; exact rfl
    apply seq_guard (hd := rfl) (hl := rfl); exact do_indexAddrS rfl rfl rfl (by exact idx_nat (by omega)); exact rfl
    apply seq_guard (hd := rfl) (hl := rfl); exact do_load rfl (by exact ext_get_old (by assumption) (by assumption)) rfl (by exact pt_sl0 (by assumption) (by omega)); exact rfl
    apply seq_guard (hd := rfl) (hl := rfl); exact do_binInt rfl rfl rfl trivial; exact rfl
    apply seq_guard (hd := rfl) (hl := rfl); exact do_move rfl; exact rfl
    apply seq_guard (hd := rfl) (hl := rfl); exact do_binInt rfl rfl rfl trivial; exact rfl
    apply seq_guard (hd := rfl) (hl := rfl); exact do_neq rfl rfl trivial rfl; exact rfl
    apply seq_plain; exact do_pick_f rfl rfl; exact rfl
    apply seq_nil
    refine ct_cond_f rfl ?_ ?_
    · first | exact e5 | simpa using e5
    apply ct_skip
    apply ct_seq
    apply ct_seq
    apply ct_region
    apply seq_plain; exact do_move rfl; exact rfl
    apply seq_plain; exact do_move rfl; exact rfl
    apply seq_plain; exact do_indexAddrS rfl rfl rfl (by exact idx_nat (by omega)); exact rfl
    apply seq_plain; exact do_load rfl (by exact ext_get_old (by assumption) (by assumption)) rfl (by exact pt_sl0 (by assumption) (by omega)); exact rfl
    apply seq_plain; exact do_binInt rfl rfl rfl trivial; exact rfl
    apply seq_nil
    refine ct_cond rfl (fun z => ?_) (fun z => ?_)
    · apply ct_exit
      apply exit_eq; exact rfl
      apply ct_region
      apply seq_plain; exact do_succ rfl (by omega); exact rfl
      apply seq_plain; exact do_move rfl; exact rfl
      apply seq_nil
      exact lt_sub (by repeat (first | exact sub_nil | apply sub_cons rfl)) (ih' (n + 1) ms' M (by omega) (by omega) hM nd' msn)
    have z : ¬ U[n] < 1 := of_decide_eq_false z
    have cV := cW (lo := lo) (L := M) hc3 e23 U[n] (by omega) (by omega)
    obtain ⟨V, hV⟩ : ∃ V, V = wornV t l A U[n] := ⟨_, rfl⟩
    have hVl : V.length = t.length := by rw [hV]; exact wl _
    have h1V : n < V.length := by omega
    have eV : V[n] = G := by
      have := wg U[n] n (by rw [wl]; exact h1)
      simp only [hV]
      rw [this, u2 (by omega)]
    rw [← hV] at cV
    clear hV u2 u1 e5
    apply ct_skip
    apply ct_seq
    apply ct_region
    apply seq_plain; exact do_move rfl; exact rfl
    apply seq_plain; exact do_move rfl; exact rfl
    apply seq_plain; exact do_move rfl; exact rfl
    apply seq_plain; exact do_move rfl; exact rfl
    apply seq_plain; exact do_move rfl; exact rfl
    apply seq_plain; exact do_indexAddrS rfl rfl rfl (by exact idx_nat (by omega)); exact rfl
    apply seq_plain; exact do_load rfl (by exact ext_get_old (by assumption) (by assumption)) rfl (by exact pt_sl0 (by assumption) (by omega)); exact rfl
    apply seq_call (ht := rfl); exact cV; exact rfl
    obtain ⟨pV, hpV⟩ : ∃ pV, pV = lstP (nb h3 M.length) V := ⟨_, rfl⟩
    have sV : SlAt (ext h3 lo (M ++ lstL 1 i1 V)) 1 i1 pV V := by rw [hpV]; exact lst_slAt (fun _ => rfl)
    have hM2 := getApp (m := lstL 1 i1 V) hM
    refine seqL_to (l' := [(0, .slice (some ⟨b6, o6, none⟩) t.length c), (1, .slice r l.length d), (7, .slice pa l.length l.length), (9, .slice (some ⟨b7, o7, none⟩) t.length t.length), (11, .slice (some ⟨b8, o8, none⟩) t.length t.length), (13, .map (some (nb h3 0))), (14, I n), (17, I G), (106, .slice (some ⟨b6, o6, none⟩) t.length c), (107, I t.length), (108, I n), (180, .tuple ⟨[.slice pV t.length t.length, I 0]⟩)]) (by rw [hpV, ← hVl]; (repeat (first | exact sub_nil | apply sub_cons rfl))) (.refl _) (by simp) ?_
    obtain ⟨b9, o9, cs9, z9, st9, ro9, rfl, hg9, hw9⟩ := sV.out (by intro e; rw [e] at h1V; simp at h1V)
    obtain ⟨M2, hM2e⟩ : ∃ M2, M2 = M ++ lstL 1 i1 V := ⟨_, rfl⟩
    rw [← hM2e] at hM2 hg9 ⊢
    clear hM2e hpV cV
    apply seq_plain; exact do_move rfl; exact rfl
    apply seq_plain; exact do_extract rfl rfl; exact rfl
    apply seq_plain; exact do_extract rfl rfl; exact rfl
    apply seq_plain; exact do_assign rfl; exact rfl
    apply seq_plain; exact do_assign rfl; exact rfl
    apply seq_nil
    apply ct_seq
    apply ct_region
    apply seq_plain; exact do_move rfl; exact rfl
    apply seq_plain; exact do_binInt rfl rfl rfl trivial; exact rfl
    apply seq_plain; exact do_move rfl; exact rfl
    apply seq_guard (hd := rfl) (hl := rfl); exact do_move rfl; exact rfl
    apply seq_guard (hd := rfl) (hl := rfl); exact do_lenS rfl rfl rfl; exact rfl
    apply seq_guard (hd := rfl) (hl := rfl); exact do_move rfl; exact rfl
    apply seq_guard (hd := rfl) (hl := rfl); exact do_lenS rfl rfl rfl; exact rfl
    apply seq_guard (hd := rfl) (hl := rfl); exact do_binInt rfl rfl rfl trivial; exact rfl
    apply seq_plain; exact do_pick_f rfl rfl; exact rfl
    apply seq_plain; exact do_move rfl; exact rfl
    simp only [bne_self_eq_false]
    apply seq_guard (hd := rfl) (hl := rfl); exact do_move rfl; exact rfl
    apply seq_guard (hd := rfl) (hl := rfl); exact do_move rfl; exact rfl
    apply seq_guard (hd := rfl) (hl := rfl); exact do_indexAddrS rfl rfl rfl (by exact idx_nat (by omega)); exact rfl
    apply seq_guard (hd := rfl) (hl := rfl); exact do_load rfl (by assumption) rfl (by exact pt_sl0 (by assumption) (by omega)); exact rfl
    apply seq_guard (hd := rfl) (hl := rfl); exact do_move rfl; exact rfl
    apply seq_guard (hd := rfl) (hl := rfl); exact do_binInt rfl rfl rfl trivial; exact rfl
    apply seq_plain; exact do_pick_f rfl rfl; exact rfl
    apply seq_nil
    rw [eV]
    refine ct_cond_f rfl (by simp) ?_
    apply ct_skip
    apply ct_region
    apply seq_plain; exact do_succ rfl (by omega); exact rfl
    apply seq_plain; exact do_move rfl; exact rfl
    apply seq_nil
    exact lt_sub (by repeat (first | exact sub_nil | apply sub_cons rfl)) (ih' (n + 1) ms' M2 (by omega) (by omega) hM2 nd' msn)
  have h1 : n = t.length := by simp at h1; omega
  subst h1
  clear ih' hn6
  have hms : ∀ k, (getK ms k).getD 0 = bookK l k l.length - bookK l k 0 := fun k => by rw [hms, hUk]; simp [bookK]
  have hbb := fun k i => bookK_bd (k := k) hlb i
  clear hUk hUo hUb hUl hWl hWg sU sW cW wl wg wx hP sA
  apply ct_exit
  apply exit_eq; exact rfl
  apply ct_seq
  apply ct_seq
  apply ct_region
  apply seq_plain; exact do_move rfl; exact rfl
  apply seq_plain; exact do_lenS rfl rfl rfl; exact rfl
  apply seq_plain; exact do_move rfl; exact rfl
  apply seq_nil
  apply ct_block
  apply ct_loop
  refine lt_meas (α := Nat × List (ByteArray × Int) × List (Option ABlk)) (fun a => [(13, .map (some (nb h3 0))), (201, .slice r l.length d), (202, I l.length), (203, I a.1)]) (fun a => ext h3 lo a.2.2) (fun a => a.1 ≤ l.length ∧ a.2.2[0]? = some (some (pairM strV (fun n : Int => I n) a.2.1)) ∧ (a.2.1.map (·.1)).Nodup ∧ ∀ k, (getK a.2.1 k).getD 0 = bookK l k l.length - bookK l k a.1) (fun a => l.length - a.1) (fun a ha ih => ?_) (0, ms, L) ⟨Nat.zero_le _, hL, hnd, hms⟩ (by repeat (first | exact sub_nil | apply sub_cons rfl)) (.refl _)
  clear hL hnd
  obtain ⟨j, ms, L⟩ := a
  obtain ⟨hj, hL, hnd, hms⟩ := ha
  simp only at hj hL hnd hms ih ⊢
  have ih' := fun i' m' L' a1 a2 a3 a4 a5 => ih (i', m', L') a1 ⟨a2, a3, a4, a5⟩
  simp only at ih'
  clear ih
  apply ct_seq
  apply ct_region
  apply seq_plain; exact do_binInt rfl rfl rfl trivial; exact rfl
  apply seq_nil
  apply ct_seq
  refine ct_cond rfl (fun h1 => ?_) (fun h1 => ?_)
  · simp only [decide_eq_true_eq, Int.ofNat_lt] at h1
    obtain ⟨b2, o2, cs2, z2, st2, ro2, rfl, hg2, hw2⟩ := hre.out (by intro e; rw [e] at h1; simp at h1)
    have hxb := hok _ (List.getElem_mem h1)
    have x0 := hxb.f0
    have x1 := hxb.f1
    have x2 := hxb.t0
    have x3 := hxb.t1
    have v1 := hms l[j].kind
    have v2 := hbb l[j].kind l.length
    have v3 := hbb l[j].kind j
    have v4 : -9999900 ≤ (getK ms l[j].kind).getD 0 ∧ (getK ms l[j].kind).getD 0 ≤ 9999900 := by omega
    have msn : ∀ k, (getK (putK ms l[j].kind ((getK ms l[j].kind).getD 0 - (l[j].to - l[j].frm))) k).getD 0 = bookK l k l.length - bookK l k (j + 1) := fun k => by
      rw [getK_put, bookK_succ h1]
      by_cases e : l[j].kind = k
      · rw [if_pos e, if_pos e, Option.getD_some, hms, e]
        unfold lenB; omega
      · rw [if_neg e, if_neg e, hms]; omega
    clear v1 v2 v3
    apply ct_skip
    apply ct_seq
    apply ct_block
    apply ct_seq
    apply ct_region
    apply seq_plain; exact do_indexAddrS rfl rfl rfl (by exact idx_nat (by omega)); exact rfl
    apply seq_plain; exact do_load rfl (by exact ext_get_old (by assumption) (by assumption)) rfl (by exact pt_sl (by assumption) (by omega)); exact rfl
    apply seq_newP; exact do_alloc rfl rfl; exact rfl
    apply seq_putC (hc := by assumption); rotate_left; exact do_store rfl rfl (by exact ext_get_new List.getElem?_concat_length) rfl rfl (nb_own _); rotate_left; exact (by simp)
    apply ct_region
    apply seq_plain; exact do_move rfl; exact rfl
    apply seq_plain; exact do_fieldAddr rfl rfl; exact rfl
    apply seq_plain; exact do_load rfl (by exact ext_get_new getSetLast) rfl (by exact rfl); exact rfl
    rw [set_mid rfl]
    have g0 := getApp (m := [some (ABlk.cells (bk l[j]) 0 false false)]) hL
    have gx : (L ++ [some (ABlk.cells (bk l[j]) 0 false false)])[L.length]? = some (some (.cells (bk l[j]) 0 false false)) := List.getElem?_concat_length
    obtain ⟨k, hkk⟩ : ∃ k, k = L.length := ⟨_, rfl⟩
    obtain ⟨L1, hL1⟩ : ∃ L1, L1 = L ++ [some (ABlk.cells (bk l[j]) 0 false false)] := ⟨_, rfl⟩
    refine seqL_to (l' := [(13, .map (some (nb h3 0))), (23, .pointer (some ⟨nb h3 k, 0, none⟩)), (201, .slice (some ⟨b2, o2, none⟩) l.length d), (202, I l.length), (203, I j), (207, .map (some (nb h3 0))), (209, .string l[j].kind)]) (h' := ext h3 lo L1) (by rw [hkk]; (repeat (first | exact sub_nil | apply sub_cons rfl))) (by rw [hL1]; exact .refl _) (by simp) ?_
    rw [← hL1] at g0 gx
    rw [← hkk] at gx
    have hlt0 : 0 < L1.length := (List.getElem?_eq_some_iff.1 g0).1
    clear hL1 hkk hL
    apply seq_plain; exact do_pairGet (f := strV) (g := fun n : Int => I n) (ks := ms) (a := l[j].kind) (z := I 0) (v := I ((getK ms l[j].kind).getD 0)) rfl rfl (by exact ext_get_new g0) rfl rfl keyStr (by cases getK ms l[j].kind <;> rfl); exact rfl
    apply seq_plain; exact do_fieldAddr rfl rfl; exact rfl
    apply seq_plain; exact do_load rfl (by exact ext_get_new (by assumption)) rfl (by exact rfl); exact rfl
    apply seq_plain; exact do_fieldAddr rfl rfl; exact rfl
    apply seq_plain; exact do_load rfl (by exact ext_get_new (by assumption)) rfl (by exact rfl); exact rfl
    apply seq_plain; exact do_sub rfl rfl (by omega); exact rfl
    apply seq_plain; exact do_sub rfl rfl (by omega); exact rfl
    refine seq_putQC (k := 0) hc3 hlt0 (do_pairPut (f := strV) (g := fun n : Int => I n) (ks := ms) (a := l[j].kind) (b := (getK ms l[j].kind).getD 0 - (l[j].to - l[j].frm)) rfl rfl rfl (ext_get_new g0) rfl keyStr (nb_own _)) (fun L3 l3 o3 k3 => ?_)
    apply ct_region
    apply seq_plain; exact do_succ rfl (by omega); exact rfl
    apply seq_plain; exact do_move rfl; exact rfl
    apply seq_nil
    exact lt_sub (by repeat (first | exact sub_nil | apply sub_cons rfl)) (ih' (j + 1) _ L3 (by omega) (by omega) k3 (putK_nodup hnd) msn)
  have h1 : j = l.length := by simp at h1; omega
  subst h1
  clear ih' hj
  have hz : ∀ j (g : j < ms.length), ms[j].2 = 0 := fun j g => by
    have h1 := getK_memS hnd (List.getElem_mem g)
    have h2 := hms ms[j].1
    rw [h1, Option.getD_some] at h2
    omega
  clear hms hbb hnd
  apply ct_exit
  apply exit_eq; exact rfl
  apply ct_seq
  apply ct_seq
  apply ct_region
  apply seq_plain; exact do_move rfl; exact rfl
  refine seq_newP (do_rangeMap (es := pairEs strV (fun n : Int => I n) ms 0) (c := ms.length) (b := false) rfl rfl (ext_get_new hL)) rfl ?_
  apply seq_nil
  apply ct_block
  apply ct_loop
  refine lt_meas (α := List Nat) (fun _ => [(219, .pointer (some ⟨nb h3 L.length, 0, none⟩))]) (fun a => ext h3 lo (L ++ [some (.miter (some (nb h3 0)) ms.length a ms.length)])) (fun a => a.Nodup ∧ ∀ j ∈ a, j < ms.length) (fun a => ms.length - a.length) (fun a ha ih => ?_) [] ⟨.nil, by simp⟩ (by repeat (first | exact sub_nil | apply sub_cons rfl)) (.refl _)
  obtain ⟨hnd, hlt⟩ := ha
  have hle : a.length ≤ ms.length := by
    have := nodup_len hnd (m := List.range ms.length) fun j hj => List.mem_range.2 (hlt j hj)
    simpa using this
  apply ct_seq
  apply ct_region
  refine seq_nextMapE (f := strV) (g := fun n : Int => I n) (ks := ms) (b := false) hc3 rfl (by exact ext_get_new (getApp hL)) rfl (fun hall => ?_) (fun j hj hs => ?_)
  · clear ih
    apply seq_plain; exact do_extract rfl rfl; exact rfl
    apply seq_nil
    apply ct_seq
    refine ct_cond_f rfl rfl ?_
    apply ct_exit
    apply exit_eq; exact rfl
    apply ct_seq
    apply ct_region
    apply seq_call (ht := rfl); exact aw _ (ext_Ext hc3); exact rfl
    apply seq_plain; exact do_assign rfl; exact rfl
    apply seq_nil
    apply ct_ret
    exact fin_flatB hc hc3 hE rfl rfl ⟨rfl, rfl⟩
  · have hj2 := hz j hj
    have hlt2 : a.length < ms.length := by
      rcases Nat.lt_or_ge a.length ms.length with h | h
      · exact h
      · exfalso
        have := nodup_len (k := j :: a) (m := List.range ms.length) (List.nodup_cons.2 ⟨hs, hnd⟩) fun x hx => by
          rcases List.mem_cons.1 hx with rfl | hx
          · exact List.mem_range.2 hj
          · exact List.mem_range.2 (hlt x hx)
        simp only [List.length_cons, List.length_range] at this
        omega
    apply seq_plain; exact do_extract rfl rfl; exact rfl
    apply seq_nil
    apply ct_seq
    refine ct_cond_t rfl rfl ?_
    apply ct_skip
    apply ct_block
    apply ct_seq
    apply ct_region
    apply seq_plain; exact do_entry (ks := ms) (f := strV) (g := fun n : Int => I n) (b := false) rfl (by exact ext_get_new List.getElem?_concat_length) (by exact ext_get_new (getApp hL)) hj; exact rfl
    rw [hj2]
    apply seq_plain; exact do_extract rfl rfl; exact rfl
    apply seq_plain; exact do_assign rfl; exact rfl
    apply seq_nil
    apply ct_seq
    apply ct_region
    apply seq_plain; exact do_move rfl; exact rfl
    apply seq_plain; exact do_binInt rfl rfl rfl trivial; exact rfl
    apply seq_nil
    refine ct_cond_f rfl rfl ?_
    apply ct_skip
    refine lt_to (by repeat (first | exact sub_nil | apply sub_cons rfl)) (.refl _) (ih (a ++ [j]) (by simp only [List.length_append, List.length_singleton]; omega) ⟨?_, ?_⟩)
    · rw [List.nodup_append]
      refine ⟨hnd, by simp, fun x hx y hy e => hs ?_⟩
      rw [List.mem_singleton] at hy
      rw [← hy, ← e]; exact hx
    · intro x hx
      rcases List.mem_append.1 hx with hx | hx
      · exact hlt x hx
      · rw [List.mem_singleton] at hx; rw [hx]; exact hj
end Go.Proofs.YtfjihdlpohljbaaGreat
