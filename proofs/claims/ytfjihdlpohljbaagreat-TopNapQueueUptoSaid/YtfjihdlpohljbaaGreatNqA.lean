/- TopNapQueue: the law's own walk (seat of TopNapTill, TopNapQueue, TopNapUsed). -/
import Derived.Test.YtfjihdlpohljbaaGreatNqL
import Derived.Test.YtfjihdlpohljbaaGreatNpA
import Derived.Test.YtfjihdlpohljbaaGreatSvD
import Derived.Test.YtfjihdlpohljbaaGreatSvE
import Derived.Test.YtfjihdlpohljbaaGreatAsF
import Derived.Test.YtfjihdlpohljbaaGreatBgE
import Derived.Test.YtfjihdlpohljbaaGreatDeL
import Derived.Test.YtfjihdlpohljbaaGreatBgH
import Derived.Test.YtfjihdlpohljbaaGreatOpnD
import Derived.Test.YtfjihdlpohljbaaGreatNqO
noncomputable section
namespace Go.Den
section
variable {P : Program} {rd : Option Nat} {nt : Nat} {ops : Array Oper} {l : EL} {ds : List Nat} {K : St → Prop} {i : Nat} {r : List Oper} {o : Oper} {ty : TypeId} {pos : String} {af : Array Edge} {H : AHeap} {lo : Nat} {L0 : List (Option ABlk)} {ow : List Nat} {N : List ABlk} {α : Type} {f : α → List Value}
theorem sd_growX [PC P] {lst xs : List α} {m k0 d : Nat} {args : Array Operand} {tys : Array TypeId} {st : TypeId} {tr : List TypeId} {b o' c by' z : Nat} {ag k ro : Bool} {e : TypeId} {zs cs : List Value}
    (hc : Closed H) (hser : seriesS ops i = true) (hv : LstX H (L0 ++ N.map some) m f k0 lst) (hf : ∀ x, (f x).length = m) (hone : ∀ x, (f x).all oneCell = true)
    (ha : evs l args.toList = some [.slice (some ⟨nb H k0, 0, none⟩) lst.length lst.length, .slice (some ⟨b, o', none⟩) xs.length c]) (hty : tys.toList = st :: st :: tr)
    (hs : selOf P st = some (m, ag)) (he : (tyOf P st).map (·.und) = some (.slice e)) (hz : zerOf P e = some zs) (hby : (tyOf P e).map (·.bytes) = some by')
    (hb : (ext H lo (L0 ++ N.map some)).get b = some (.cells cs z k ro)) (hn : sliceIn cs o' (xs.length * m) = some (xs.flatMap f)) (hxs : xs ≠ []) (h1 : (2 * (lst.length + xs.length) + 1000) * by' ≤ 2 ^ 48) (h2 : by' ≠ 0) (h3 : m ≠ 0) (hd : Nat.blt d nt = true)
    (hk : ∀ L', LstX H L' m f (L0 ++ N.map some).length (lst ++ xs) → L'.length = (L0 ++ N.map some).length + 1 → SeqD P rd nt ops r (i + 1) ds ((d, .slice (some ⟨nb H (L0 ++ N.map some).length, 0, none⟩) (lst ++ xs).length (lst ++ xs).length) :: l) H lo L' [] [] K) :
    SeqD P rd nt ops (⟨some d, .call ⟨.builtin .append, args, tys⟩, ty, pos, af, none⟩ :: r) i ds l H lo L0 ow N K := by
  have hx0 : 0 < xs.length := by cases xs with | nil => exact absurd rfl hxs | cons _ _ => simp
  have hall : (xs.flatMap f).all oneCell = true := by
    rw [List.all_eq_true]
    intro x hx
    obtain ⟨y, _, hy⟩ := List.mem_flatMap.1 hx
    exact List.all_eq_true.1 (hone y) x hy
  obtain ⟨s, hL⟩ := hv.out
  have hlt := hv.lt
  have e3 : (lst ++ xs).length = lst.length + xs.length := List.length_append
  simp only [e3] at hk
  cases s with
  | false =>
    exact sd_newSS rfl hser hc (do_append2 ha hty hs he hz hby hb hn (ext_get_new hL) (len_flat hf lst) h1 h2 h3 hx0) hd (hk _ ⟨true, by rw [List.flatMap_append]; exact List.getElem?_concat_length⟩ List.length_append)
  | true =>
    refine sd_pushK hc rfl hser hlt (do_append1 ha hty hs he hz hby hb hn (ext_get_new hL) (len_flat hf lst) (nb_own _) hall h1 h2 h3 hx0) hd (hk _ ⟨true, ?_⟩ (by simp))
    have e2 : ((L0 ++ N.map some).set k0 none).length = (L0 ++ N.map some).length := List.length_set
    rw [← e2, List.flatMap_append]
    exact List.getElem?_concat_length
end
end Go.Den
namespace Go.Proofs.YtfjihdlpohljbaaGreat
open Go Go.Den
set_option maxRecDepth 100000
theorem old_blk {H : AHeap} {q : Option Addr} (hc : Closed H) (h : BlkS H q) : OldS H q := fun x hx => by
  obtain ⟨h1, cs, z, s, ro, h2⟩ := h.out x hx
  exact ⟨hc.lt h2, h1⟩
theorem tbs_len {t : List Tb} : (t.flatMap tb).length = t.length * 2 := len_flat tb_len t
theorem app_bdT {n : Nat} (h : n < 1000000000) : (2 * (0 + n) + 1000) * 32 ≤ 2 ^ 48 := by omega
theorem app_bdT1 {n : Nat} (h : n < 1000000000) : (2 * (n + 1) + 1000) * 32 ≤ 2 ^ 48 := by omega
structure NqIn (t : List Tb) (l : List Bk) (w : List Rq) : Prop where
  tl : t.length ≤ 4
  ll : l.length ≤ 6
  wl : w.length ≤ 6
  both : bothE t l = 0
  que : quesE t w = 0
set_option maxHeartbeats 16000000 in
theorem nqueue_w {H : AHeap} {q r p : Option Addr} {c d e : Nat} {t : List Tb} {l : List Bk} {w : List Rq} (haw : ∀ h, Ext H h → Ret Tryz.prog 10 [] h (.bool true) h) (hs : SlAt H 2 tb q t) (hlow : LowS q c t.length) (hbt : BlkS H q) (hn : t.length ≤ 1048576) (hr : SlAt H 4 bk r l) (hlow2 : LowS r d l.length) (hq : OldS H r) (hbl : BlkS H r) (hd : r = none → d = 0) (hm : l.length ≤ 1048576) (hw : SlAt H 4 rq p w) (hlow3 : LowS p e w.length) (hk : w.length ≤ 1048576) :
    Ret Tryz.prog 4 [.slice q t.length c, .slice r l.length d, .slice p w.length e] H (.bool true) H := by
  refine fn_start Tryz.func4 rfl rfl rfl fun hc => ?_
  have cO := fun L => nown_c (H := ext H H.fresh L) (c := c) (d := d) (hs.ext (ext_Ext hc)) (by omega) (hr.ext (ext_Ext hc)) (by omega)
  simp only [lstH_ext, ext_fresh] at cO
  apply ct_seq
  apply ct_region
  apply seq_plain; exact do_assign rfl; exact rfl
  apply seq_nil
  apply ct_seq
  apply ct_region
  iterate 2 (apply seq_plain; exact do_move rfl; exact rfl)
  apply seq_call (ht := rfl); exact cO []; exact rfl
  obtain ⟨x, hx⟩ : ∃ x, x = lstP (nb H ([] : List (Option ABlk)).length) t := ⟨_, rfl⟩
  obtain ⟨y, hy⟩ : ∃ y, y = lstP (nb H (([] : List (Option ABlk)) ++ lstL 2 tb t).length) l := ⟨_, rfl⟩
  have s1 : SlAt (ext H H.fresh ([] ++ lstL 2 tb t ++ lstL 4 bk l)) 4 bk y l := by rw [hy]; exact lst_slAt bk_len
  have s2 : SlAt (ext H H.fresh ([] ++ lstL 2 tb t ++ lstL 4 bk l)) 2 tb x t := by
    have := lst_slAt (H := H) (lo := H.fresh) (L := []) (m := 2) (f := tb) (l := t) tb_len
    rw [hx]
    exact this.ext (ext_more hc)
  refine seqL_to (l' := [(0, .slice q t.length c), (1, .slice r l.length d), (2, .slice p w.length e), (41, .tuple ⟨[.slice x t.length t.length, .slice y l.length l.length]⟩)]) (by rw [hx, hy]; (repeat (first | exact sub_nil | apply sub_cons rfl))) ext_base (by simp) ?_
  obtain ⟨h, hh⟩ : ∃ h, h = ext H H.fresh ([] ++ lstL 2 tb t ++ lstL 4 bk l) := ⟨_, rfl⟩
  have hc' : Closed h := by rw [hh]; exact ext_closed hc
  have hE : Ext H h := by rw [hh]; exact ext_Ext hc
  have hq' : OldS h r := by rw [hh]; exact hq.ext
  have hbl' := hbl.ext hE
  have hbt' := hbt.ext hE
  rw [← hh] at s1 s2 ⊢
  clear hh hx hy cO
  refine seq_anyLo fun lo => ?_
  have aw := fun h2 (hE2 : Ext h h2) => haw _ (hE.trans hE2)
  have hwe := hw.ext hE
  have cN := fun L => nreq_c (c := e) (hwe.ext (ext_Ext hc' (lo := lo) (L := L))) (by omega)
  simp only [lstH_ext, ext_fresh] at cN
  have cSh : ∀ L, Ret Tryz.prog 8 [.slice x t.length t.length, .slice y l.length l.length, lstV (nb h L.length) w] (ext h lo (L ++ lstL 4 rq w)) (.bool (shortH t l w)) (ext h lo (L ++ lstL 4 rq w)) := fun L =>
    short_c (c := t.length) (d := l.length) (e := w.length) (s2.ext (ext_Ext hc')) (by omega) (s1.ext (ext_Ext hc')) (by omega) (lst_slAt rq_len) (by omega)
  have cQu : ∀ L, Ret Tryz.prog 20 [.slice x t.length t.length, lstV (nb h L.length) w] (ext h lo (L ++ lstL 4 rq w)) (I (quesE t w)) (ext h lo (L ++ lstL 4 rq w)) := fun L =>
    refQueue_c (s2.ext (ext_Ext hc')) (by omega) (lst_slAt rq_len) (by omega)
  apply seq_plain; exact do_move rfl; exact rfl
  iterate 2 (apply seq_plain; exact do_extract rfl rfl; exact rfl)
  iterate 2 (apply seq_plain; exact do_assign rfl; exact rfl)
  apply seq_nil
  iterate 2 (apply ct_seq)
  apply ct_region
  apply seq_plain; exact do_move rfl; exact rfl
  apply seq_plain; exact do_lenS rfl rfl rfl; exact rfl
  apply seq_plain; exact do_binInt rfl rfl rfl trivial; exact rfl
  apply seq_plain; exact do_move rfl; exact rfl
  refine seq_JX (ds := []) (α := Bool × List (Option ABlk)) (fun a => [(0, .slice q t.length c), (1, .slice r l.length d), (2, .slice p w.length e), (77, .bool a.1)]) (fun a => ext h lo a.2) (fun a => a.1 = false → NqIn t l w) ?_ (fun a ha => ?_)
  · refine seq_gsplit rfl rfl (fun u1 => ?_) (fun u1 => ?_)
    · apply seq_passed (hd := rfl) (hl := rfl) (hb := rfl); exact rfl
      iterate 2 (apply seq_passed (hd := rfl) (hl := rfl) (hb := rfl); exact rfl)
      apply seq_plain; exact do_pick_t rfl rfl; exact rfl
      apply seq_plain; exact do_move rfl; exact rfl
      iterate 3 (apply seq_passed (hd := rfl) (hl := rfl) (hb := rfl); exact rfl)
      apply seq_plain; exact do_pick_t rfl rfl; exact rfl
      apply seq_plain; exact do_move rfl; exact rfl
      iterate 6 (apply seq_passed (hd := rfl) (hl := rfl) (hb := rfl); exact rfl)
      apply seq_plain; exact do_pick_t rfl rfl; exact rfl
      apply seq_plain; exact do_move rfl; exact rfl
      iterate 4 (apply seq_passed (hd := rfl) (hl := rfl) (hb := rfl); exact rfl)
      apply seq_plain; exact do_pick_t rfl rfl; exact rfl
      apply seq_plain; exact do_move rfl; exact rfl
      iterate 5 (apply seq_passed (hd := rfl) (hl := rfl) (hb := rfl); exact rfl)
      apply seq_plain; exact do_pick_t rfl rfl; exact rfl
      apply seq_nil
      exact jx_of (true, _) (fun h => by cases h) (by repeat (first | exact sub_nil | apply sub_cons rfl)) rfl
    have u1 : ¬ (t.length : Int) > 4 := of_decide_eq_false u1
    apply seq_guard (hd := rfl) (hl := rfl); exact do_move rfl; exact rfl
    apply seq_guard (hd := rfl) (hl := rfl); exact do_lenS rfl rfl rfl; exact rfl
    apply seq_guard (hd := rfl) (hl := rfl); exact do_binInt rfl rfl rfl trivial; exact rfl
    apply seq_plain; exact do_pick_f rfl rfl; exact rfl
    apply seq_plain; exact do_move rfl; exact rfl
    refine seq_gsplit rfl rfl (fun u2 => ?_) (fun u2 => ?_)
    · apply seq_passed (hd := rfl) (hl := rfl) (hb := rfl); exact rfl
      iterate 2 (apply seq_passed (hd := rfl) (hl := rfl) (hb := rfl); exact rfl)
      apply seq_plain; exact do_pick_t rfl rfl; exact rfl
      apply seq_plain; exact do_move rfl; exact rfl
      iterate 6 (apply seq_passed (hd := rfl) (hl := rfl) (hb := rfl); exact rfl)
      apply seq_plain; exact do_pick_t rfl rfl; exact rfl
      apply seq_plain; exact do_move rfl; exact rfl
      iterate 4 (apply seq_passed (hd := rfl) (hl := rfl) (hb := rfl); exact rfl)
      apply seq_plain; exact do_pick_t rfl rfl; exact rfl
      apply seq_plain; exact do_move rfl; exact rfl
      iterate 5 (apply seq_passed (hd := rfl) (hl := rfl) (hb := rfl); exact rfl)
      apply seq_plain; exact do_pick_t rfl rfl; exact rfl
      apply seq_nil
      exact jx_of (true, _) (fun h => by cases h) (by repeat (first | exact sub_nil | apply sub_cons rfl)) rfl
    have u2 : ¬ (l.length : Int) > 6 := of_decide_eq_false u2
    apply seq_guard (hd := rfl) (hl := rfl); exact do_move rfl; exact rfl
    apply seq_guard (hd := rfl) (hl := rfl); exact do_lenS rfl rfl rfl; exact rfl
    apply seq_guard (hd := rfl) (hl := rfl); exact do_binInt rfl rfl rfl trivial; exact rfl
    apply seq_plain; exact do_pick_f rfl rfl; exact rfl
    apply seq_plain; exact do_move rfl; exact rfl
    refine seq_gsplit rfl rfl (fun u3 => ?_) (fun u3 => ?_)
    · apply seq_passed (hd := rfl) (hl := rfl) (hb := rfl); exact rfl
      iterate 5 (apply seq_passed (hd := rfl) (hl := rfl) (hb := rfl); exact rfl)
      apply seq_plain; exact do_pick_t rfl rfl; exact rfl
      apply seq_plain; exact do_move rfl; exact rfl
      iterate 4 (apply seq_passed (hd := rfl) (hl := rfl) (hb := rfl); exact rfl)
      apply seq_plain; exact do_pick_t rfl rfl; exact rfl
      apply seq_plain; exact do_move rfl; exact rfl
      iterate 5 (apply seq_passed (hd := rfl) (hl := rfl) (hb := rfl); exact rfl)
      apply seq_plain; exact do_pick_t rfl rfl; exact rfl
      apply seq_nil
      exact jx_of (true, _) (fun h => by cases h) (by repeat (first | exact sub_nil | apply sub_cons rfl)) rfl
    have u3 : ¬ (w.length : Int) > 6 := of_decide_eq_false u3
    iterate 3 (apply seq_guard (hd := rfl) (hl := rfl); exact do_move rfl; exact rfl)
    apply seq_gcall (hg := rfl) (hl := rfl) (ht := rfl); exact cN _; exact rfl
    skip
    apply seq_gcall (hg := rfl) (hl := rfl) (ht := rfl); exact cSh _; exact rfl
    apply seq_guard (hd := rfl) (hl := rfl); exact do_unOp rfl rfl; exact rfl
    apply seq_plain; exact do_pick_f rfl rfl; exact rfl
    apply seq_plain; exact do_move rfl; exact rfl
    refine seq_gsplit rfl rfl (fun u4 => ?_) (fun u4 => ?_)
    · apply seq_passed (hd := rfl) (hl := rfl) (hb := rfl); exact rfl
      iterate 3 (apply seq_passed (hd := rfl) (hl := rfl) (hb := rfl); exact rfl)
      apply seq_plain; exact do_pick_t rfl rfl; exact rfl
      apply seq_plain; exact do_move rfl; exact rfl
      iterate 5 (apply seq_passed (hd := rfl) (hl := rfl) (hb := rfl); exact rfl)
      apply seq_plain; exact do_pick_t rfl rfl; exact rfl
      apply seq_nil
      exact jx_of (true, _) (fun h => by cases h) (by repeat (first | exact sub_nil | apply sub_cons rfl)) rfl
    iterate 2 (apply seq_guard (hd := rfl) (hl := rfl); exact do_move rfl; exact rfl)
    apply seq_gcall (hg := rfl) (hl := rfl) (ht := rfl); exact refCheck_c (s2.ext (ext_Ext hc')) (by omega) (s1.ext (ext_Ext hc')) (by omega); exact rfl
    apply seq_guard (hd := rfl) (hl := rfl); exact do_binInt rfl rfl rfl trivial; exact rfl
    apply seq_plain; exact do_pick_f rfl rfl; exact rfl
    apply seq_plain; exact do_move rfl; exact rfl
    refine seq_gsplit rfl rfl (fun u5 => ?_) (fun u5 => ?_)
    · apply seq_passed (hd := rfl) (hl := rfl) (hb := rfl); exact rfl
      iterate 4 (apply seq_passed (hd := rfl) (hl := rfl) (hb := rfl); exact rfl)
      apply seq_plain; exact do_pick_t rfl rfl; exact rfl
      apply seq_nil
      exact jx_of (true, _) (fun h => by cases h) (by repeat (first | exact sub_nil | apply sub_cons rfl)) rfl
    have u5 : (bothE t l != 0) = false := u5
    iterate 2 (apply seq_guard (hd := rfl) (hl := rfl); exact do_move rfl; exact rfl)
    apply seq_gcall (hg := rfl) (hl := rfl) (ht := rfl); exact cN _; exact rfl
    skip
    apply seq_gcall (hg := rfl) (hl := rfl) (ht := rfl); exact cQu _; exact rfl
    apply seq_guard (hd := rfl) (hl := rfl); exact do_binInt rfl rfl rfl trivial; exact rfl
    apply seq_plain; exact do_pick_f rfl rfl; exact rfl
    apply seq_nil
    refine jx_of (quesE t w != 0, _) (fun h => ?_) (by repeat (first | exact sub_nil | apply sub_cons rfl)) rfl
    exact ⟨by omega, by omega, by omega, by simpa using u5, by simpa using h⟩
  obtain ⟨Z, L⟩ := a
  simp only at ha ⊢
  refine ct_cond rfl (fun u0 => ?_) (fun u0 => ?_)
  · apply ct_seq
    apply ct_region
    apply seq_call (ht := rfl); exact aw _ (ext_Ext hc'); exact rfl
    apply seq_plain; exact do_assign rfl; exact rfl
    apply seq_nil
    apply ct_ret
    exact fin_flatB hc hc' hE rfl rfl ⟨rfl, rfl⟩
  have hin := ha u0
  clear u0 ha cN cSh cQu aw s1 s2
  have m1 := hin.tl
  have m2 := hin.ll
  have m3 := hin.wl
  have hb := hin.both
  have hqz := hin.que
  clear hin
  have hse := hs.ext hE
  have hre := hr.ext hE
  have cS := Serve_c (c := c) (d := d) (e := e) (hse.ext (ext_Ext hc' (lo := lo) (L := L))) hlow (by omega) (hre.ext (ext_Ext hc')) hlow2 hq'.ext (hbl'.ext (ext_Ext hc')) hd (by omega) (hwe.ext (ext_Ext hc')) hlow3 (by omega)
  simp only [lstH_ext, ext_fresh] at cS
  apply ct_skip
  apply ct_seq
  apply ct_region
  iterate 3 (apply seq_plain; exact do_move rfl; exact rfl)
  apply seq_call (ht := rfl); exact cS; exact rfl
  obtain ⟨O, hO⟩ : ∃ O, O = srvO t l w := ⟨_, rfl⟩
  obtain ⟨E, hEE⟩ : ∃ E, E = srvE t l w := ⟨_, rfl⟩
  rw [← hO, ← hEE]
  obtain ⟨po, hpo⟩ : ∃ po, po = lstP (nb h L.length) O := ⟨_, rfl⟩
  have sO : SlAt (ext h lo (L ++ lstL 1 i1 O)) 1 i1 po O := by rw [hpo]; exact lst_slAt (fun _ => rfl)
  refine seqL_to (l' := [(0, .slice q t.length c), (1, .slice r l.length d), (2, .slice p w.length e), (83, .tuple ⟨[.slice po O.length O.length, I E]⟩)]) (by rw [hpo]; (repeat (first | exact sub_nil | apply sub_cons rfl))) ext_base (by simp) ?_
  obtain ⟨h2, hh2⟩ : ∃ h2, h2 = ext h lo (L ++ lstL 1 i1 O) := ⟨_, rfl⟩
  have hq' : OldS h2 r := by rw [hh2]; exact hq'.ext
  have hse : SlAt h2 2 tb q t := by rw [hh2]; exact hse.ext (ext_Ext hc')
  have hre : SlAt h2 4 bk r l := by rw [hh2]; exact hre.ext (ext_Ext hc')
  have hwe : SlAt h2 4 rq p w := by rw [hh2]; exact hwe.ext (ext_Ext hc')
  have hbl' : BlkS h2 r := by rw [hh2]; exact hbl'.ext (ext_Ext hc')
  have hbt' : BlkS h2 q := by rw [hh2]; exact hbt'.ext (ext_Ext hc')
  have hE : Ext H h2 := by rw [hh2]; exact hE.trans (ext_Ext hc')
  have hc' : Closed h2 := by rw [hh2]; exact ext_closed hc'
  rw [← hh2] at sO ⊢
  refine seq_anyLo fun lo => ?_
  clear hh2 cS hpo L Z
  have aw := fun h3 (hE2 : Ext h2 h3) => haw _ (hE.trans hE2)
  apply seq_plain; exact do_move rfl; exact rfl
  iterate 2 (apply seq_plain; exact do_extract rfl rfl; exact rfl)
  iterate 2 (apply seq_plain; exact do_assign rfl; exact rfl)
  apply seq_nil
  iterate 2 (apply ct_seq)
  apply ct_region
  apply seq_plain; exact do_move rfl; exact rfl
  apply seq_plain; exact do_binInt rfl rfl rfl trivial; exact rfl
  apply seq_nil
  refine ct_cond rfl (fun u => ?_) (fun u => ?_)
  · have u : E ≠ 0 := by simpa using u
    rcases srv_any hb hqz with ⟨_, e2, e3⟩ | ⟨e1, _⟩
    · rw [← hEE] at e3
      rcases e3 with e3 | e3
      · rw [e3]
        apply ct_seq
        apply ct_region
        apply seq_plain; exact do_move rfl; exact rfl
        apply seq_plain; exact do_binInt rfl rfl rfl trivial; exact rfl
        apply seq_plain; exact do_move rfl; exact rfl
        iterate 2 (apply seq_passed (hd := rfl) (hl := rfl) (hb := rfl); exact rfl)
        apply seq_plain; exact do_pick_t rfl rfl; exact rfl
        apply seq_plain; exact do_move rfl; exact rfl
        apply seq_gcall (hg := rfl) (hl := rfl) (ht := rfl); exact aw _ (ext_Ext hc'); exact rfl
        apply seq_plain; exact do_pick_t rfl rfl; exact rfl
        apply seq_plain; exact do_assign rfl; exact rfl
        apply seq_nil
        apply ct_ret
        exact fin_flatB hc hc' hE rfl rfl ⟨rfl, rfl⟩
      · rw [e3]
        apply ct_seq
        apply ct_region
        apply seq_plain; exact do_move rfl; exact rfl
        apply seq_plain; exact do_binInt rfl rfl rfl trivial; exact rfl
        apply seq_plain; exact do_move rfl; exact rfl
        apply seq_guard (hd := rfl) (hl := rfl); exact do_move rfl; exact rfl
        apply seq_guard (hd := rfl) (hl := rfl); exact do_binInt rfl rfl rfl trivial; exact rfl
        apply seq_plain; exact do_pick_f rfl rfl; exact rfl
        apply seq_plain; exact do_move rfl; exact rfl
        apply seq_gcall (hg := rfl) (hl := rfl) (ht := rfl); exact aw _ (ext_Ext hc'); exact rfl
        apply seq_plain; exact do_pick_t rfl rfl; exact rfl
        apply seq_plain; exact do_assign rfl; exact rfl
        apply seq_nil
        apply ct_ret
        exact fin_flatB hc hc' hE rfl rfl ⟨rfl, rfl⟩
    · exact absurd (hEE.trans e1) u
  have u : E = 0 := by simpa using u
  obtain ⟨hsv, hOl, hfit⟩ : SvI t l w O ∧ O.length = w.length ∧ FitP t l := by
    rcases srv_any hb hqz with ⟨e1, _⟩ | ⟨_, e2, e3, e4⟩
    · exact absurd (hEE.symm.trans u) e1
    · rw [hO]; exact ⟨e2, e3, e4⟩
  clear hEE u
  have hwv : ∀ lo L, Wv (ext h2 lo L) 4 bk (.slice r l.length d) l := fun lo L => wv_of bk_len (hre.ext (ext_Ext hc')) (hbl'.ext (ext_Ext hc'))
  have ebl : ((O.length : Int) != (w.length : Int)) = false := by rw [hOl]; simp
  apply ct_skip
  iterate 2 (apply ct_seq)
  apply ct_region
  apply seq_plain; exact do_move rfl; exact rfl
  apply seq_plain; exact do_lenS rfl rfl rfl; exact rfl
  apply seq_plain; exact do_move rfl; exact rfl
  apply seq_plain; exact do_lenS rfl rfl rfl; exact rfl
  apply seq_plain; exact do_binInt rfl rfl rfl trivial; exact rfl
  apply seq_nil
  rw [ebl]
  refine ct_cond_f rfl rfl ?_
  apply ct_skip
  apply ct_seq
  apply ct_region
  apply seq_newS; exact do_buildSlice rfl rfl rfl rfl rfl rfl rfl; exact rfl
  apply seq_plain; exact do_move rfl; exact rfl
  refine seq_JX (ds := []) (α := Nat × List (Option ABlk)) (fun a => [(0, .slice q t.length c), (1, .slice r l.length d), (2, .slice p w.length e), (9, .slice po O.length O.length), (11, .slice (some ⟨nb h2 a.1, 0, none⟩) l.length l.length)]) (fun a => ext h2 lo a.2) (fun a => LstX h2 a.2 4 bk a.1 l) ?_ (fun a ha => ?_)
  · by_cases hne : l = []
    · subst hne
      refine seq_plain (do_appNil rfl rfl rfl rfl rfl rfl (hwv _ _) (fun a e => by cases e; rfl) (Nat.le_refl _) (Nat.le_of_ble_eq_true rfl) (Nat.ne_of_beq_eq_false rfl) (Nat.ne_of_beq_eq_false rfl)) rfl ?_
      apply seq_plain; exact do_assign rfl; exact rfl
      apply seq_nil
      exact jx_of (0, _) ⟨_, rfl⟩ (by repeat (first | exact sub_nil | apply sub_cons rfl)) rfl
    · obtain ⟨b', o', c', cs, z, k, ro, e1, hg, hsl⟩ := (hwv lo []).blk (by omega) bk_len hne
      have hg : ∀ lo L, (ext h2 lo L).get b' = some (.cells cs z k ro) := fun lo' L => by
        obtain ⟨b2, o2, cs2, z2, s2, r2, e2, hg2, _⟩ := hre.out hne
        rw [e2] at e1
        cases e1
        have h3 := ext_get_old (lo := lo) (L := []) hc' hg2
        rw [hg] at h3
        rw [h3]
        exact ext_get_old hc' hg2
      injection e1 with e1 _ e3
      cases e1
      subst e3
      refine seq_newS (do_appendY rfl rfl rfl rfl rfl rfl (hg _ _) hsl (ext_get_new rfl) (app_bd (by omega)) (Nat.ne_of_beq_eq_false rfl) (Nat.ne_of_beq_eq_false rfl) (List.length_pos_iff.2 hne)) rfl ?_
      apply seq_plain; exact do_assign rfl; exact rfl
      apply seq_nil
      exact jx_of (1, _) ⟨true, rfl⟩ (by repeat (first | exact sub_nil | apply sub_cons rfl)) rfl
  obtain ⟨Kn, L⟩ := a
  simp only at ha ⊢
  iterate 2 (apply ct_seq)
  apply ct_region
  apply seq_plain; exact do_move rfl; exact rfl
  apply seq_plain; exact do_lenS rfl rfl rfl; exact rfl
  apply seq_plain; exact do_move rfl; exact rfl
  apply seq_nil
  apply ct_block
  apply ct_loop
  refine lt_meas (α := Nat × Nat × List (Option ABlk)) (fun a => [(0, .slice q t.length c), (1, .slice r l.length d), (2, .slice p w.length e), (9, .slice po O.length O.length), (11, .slice (some ⟨nb h2 a.2.1, 0, none⟩) (allB l w O a.1).length (allB l w O a.1).length), (105, .slice p w.length e), (106, I w.length), (107, I a.1)]) (fun a => ext h2 lo a.2.2) (fun a => a.1 ≤ w.length ∧ LstX h2 a.2.2 4 bk a.2.1 (allB l w O a.1)) (fun a => w.length - a.1) (fun a hx ih => ?_) (0, Kn, L) ⟨Nat.zero_le _, by simp only; rw [allB_zeroO]; exact ha⟩ (by simp only; rw [allB_zeroO]; (repeat (first | exact sub_nil | apply sub_cons rfl))) (.refl _)
  clear ha Kn L
  obtain ⟨i, Kn, L⟩ := a
  obtain ⟨hi, hnow⟩ := hx
  simp only at hi hnow ih ⊢
  have ih' := fun i' Kn' L' a1 a2 a3 => ih (i', Kn', L') a1 ⟨a2, a3⟩
  simp only at ih'
  clear ih
  apply ct_seq
  apply ct_region
  apply seq_plain; exact do_binInt rfl rfl rfl trivial; exact rfl
  apply seq_nil
  apply ct_seq
  refine ct_cond rfl (fun h1 => ?_) (fun h1 => ?_)
  · have h1 : i < w.length := by
      have h1 : decide ((i : Int) < (w.length : Int)) = true := h1
      simp only [decide_eq_true_eq] at h1; omega
    have hiO : i < O.length := by omega
    obtain ⟨bw, ow, csw, zw, sw, row, rfl, hgw, hww⟩ := hwe.out (by intro e; rw [e] at h1; simp at h1)
    obtain ⟨bo, oo, cso, zo, so, roo, rfl, hgo, hwo⟩ := sO.out (by intro e; rw [e] at hiO; simp at hiO)
    have hwoA := (ques_ok hqz).2
    have wok := hwoA _ (List.getElem_mem h1)
    have wl1 := wok.l1
    have wl2 := wok.l2
    have hOb := hsv.bd hwoA hiO
    have hnl := allB_lenJ (l := l) (r := w) (out := O) (j := i) (by omega) (by omega)
    have ab : allB l w O (i + 1) = allB l w O i ++ [bkR w[i] O[i]] := allB_succ h1 hiO
    obtain ⟨now, hnw⟩ : ∃ now, now = allB l w O i := ⟨_, rfl⟩
    rw [← hnw] at hnl hnow ab ⊢
    apply ct_skip
    apply ct_seq
    apply ct_block
    apply ct_seq
    apply ct_region
    apply seq_plain; exact do_move rfl; exact rfl
    apply seq_plain; exact do_indexAddrS rfl rfl rfl (by exact idx_nat (by omega)); exact rfl
    apply seq_plain; exact do_load rfl (by exact ext_get_old (by assumption) (by assumption)) rfl (by exact pt_sl (by assumption) (by omega)); exact rfl
    apply seq_newP; exact do_alloc rfl rfl; exact rfl
    apply seq_plain; exact do_assign rfl; exact rfl
    apply seq_putC (hc := by assumption); rotate_left; exact do_store rfl rfl (by exact ext_get_new List.getElem?_concat_length) rfl rfl (nb_own _); rotate_left; exact (by simp)
    rw [set_mid rfl]
    refine ct_to (l' := [(0, .slice q t.length c), (1, .slice r l.length d), (2, .slice (some ⟨bw, ow, none⟩) w.length e), (9, .slice (some ⟨bo, oo, none⟩) O.length O.length), (11, .slice (some ⟨nb h2 Kn, 0, none⟩) now.length now.length), (12, I i), (13, .pointer (some ⟨nb h2 L.length, 0, none⟩)), (105, .slice (some ⟨bw, ow, none⟩) w.length e), (106, I w.length), (107, I i)]) (h' := ext h2 lo (L ++ [some (.cells (rq w[i]) 0 false false)])) (by repeat (first | exact sub_nil | apply sub_cons rfl)) (.refl _) ?_
    have hx1 : (L ++ [some (ABlk.cells (rq w[i]) 0 false false)])[L.length]? = some (some (.cells (rq w[i]) 0 false false)) := List.getElem?_concat_length
    have hn1 : LstX h2 (L ++ [some (ABlk.cells (rq w[i]) 0 false false)]) 4 bk Kn now := hnow.app _
    obtain ⟨L1, hL1⟩ : ∃ L1, L1 = L ++ [some (ABlk.cells (rq w[i]) 0 false false)] := ⟨_, rfl⟩
    rw [← hL1] at hx1 hn1 ⊢
    clear hL1 hnow hwoA
    apply ct_draw (by assumption); decide +kernel
    apply sd_plain (hfree := rfl); intro _; exact do_move rfl; exact rfl
    apply sd_plain (hfree := rfl); intro _; exact do_fieldAddr rfl rfl; exact rfl
    apply sd_look (hfree := rfl); exact do_load rfl (by exact ext_get_new (getApp (by assumption))) rfl (by exact rfl); exact rfl
    apply sd_plain (hfree := rfl); intro _; exact do_fieldAddr rfl rfl; exact rfl
    apply sd_look (hfree := rfl); exact do_load rfl (by exact ext_get_new (getApp (by assumption))) rfl (by exact rfl); exact rfl
    iterate 2 (apply sd_plain (hfree := rfl); intro _; exact do_move rfl; exact rfl)
    apply sd_plain (hfree := rfl); intro _; exact do_indexAddrS rfl rfl rfl (by exact idx_nat (by omega)); exact rfl
    apply sd_look (hfree := rfl); exact do_load rfl (by exact ext_get_old (by assumption) (by assumption)) rfl (by exact pt_sl0 (by assumption) (by omega)); exact rfl
    iterate 2 (apply sd_plain (hfree := rfl); intro _; exact do_move rfl; exact rfl)
    apply sd_plain (hfree := rfl); intro _; exact do_indexAddrS rfl rfl rfl (by exact idx_nat (by omega)); exact rfl
    apply sd_look (hfree := rfl); exact do_load rfl (by exact ext_get_old (by assumption) (by assumption)) rfl (by exact pt_sl0 (by assumption) (by omega)); exact rfl
    apply sd_plain (hfree := rfl); intro _; exact do_fieldAddr rfl rfl; exact rfl
    apply sd_look (hfree := rfl); exact do_load rfl (by exact ext_get_new (getApp (by assumption))) rfl (by exact rfl); exact rfl
    apply sd_plain (hfree := rfl); intro _; exact do_add rfl rfl (by omega); exact rfl
    apply sd_plain (hfree := rfl); intro _; exact do_build rfl rfl rfl rfl; exact rfl
    apply sd_newS (hfree := rfl); exact do_buildSlice rfl rfl rfl rfl rfl rfl rfl; exact rfl
    refine sd_growX (xs := [bkR w[i] O[i]]) hc' (by decide +kernel) (hn1.app _) (fun _ => rfl) (fun _ => rfl) rfl rfl rfl rfl rfl rfl (ext_get_new List.getElem?_concat_length) rfl (by simp) ?_ (Nat.ne_of_beq_eq_false rfl) (Nat.ne_of_beq_eq_false rfl) rfl (fun L3 hv' hlen3 => ?_)
    · exact Nat.le_trans (Nat.mul_le_mul_right _ (by simp only [List.length_cons, List.length_nil]; omega : _ ≤ 3000000000)) (Nat.le_of_ble_eq_true rfl)
    apply sd_plain (hfree := rfl); intro _; exact do_assign rfl; exact rfl
    apply sd_nil
    apply ct_region
    apply seq_plain; exact do_succ rfl (by omega); exact rfl
    apply seq_plain; exact do_move rfl; exact rfl
    apply seq_nil
    simp only [List.map_nil, List.append_nil]
    skip
    exact lt_to (by rw [ab]; (repeat (first | exact sub_nil | apply sub_cons rfl))) (.refl _) (ih' (i + 1) _ L3 (by omega) (by omega) (by rw [ab]; exact hv'))
  have h1 : i = w.length := by simp at h1; omega
  subst h1
  clear ih' hi
  have hN := nq_all hb hqz (by omega) hsv hOl hfit
  have hall := allB_lenJ (l := l) (r := w) (out := O) (j := w.length) (Nat.le_refl _) (by omega)
  obtain ⟨all, hae⟩ : ∃ all, all = allB l w O w.length := ⟨_, rfl⟩
  rw [← hae] at hN hnow hall ⊢
  clear hae
  have sAll := hnow.at_ (lo := lo) bk_len
  have oAll0 : OldS (ext h2 lo L) (some ⟨nb h2 Kn, 0, none⟩) := OldS.new hnow.lt
  obtain ⟨X1, pa, na, ev1, eh1, ok1, bad1⟩ := asg_state (h := h2) (lo := lo) (L := L) t all
  have oAll : OldS (ext h2 lo (L ++ X1)) (some ⟨nb h2 Kn, 0, none⟩) := OldS.new (hnow.app X1).lt
  obtain ⟨pl, hpl⟩ : ∃ pl : Addr, pl = ⟨nb h2 Kn, 0, none⟩ := ⟨_, rfl⟩
  have lAll : LowS (some pl) all.length all.length := ⟨Nat.le_refl _, fun e => (by cases e), fun a e => (by cases e; rw [hpl])⟩
  rw [← hpl] at sAll oAll oAll0 ⊢
  obtain ⟨rfl, sA⟩ := ok1 hN.x
  have ca := Assign_c (c := c) (d := all.length) (hse.ext (ext_Ext hc' (lo := lo) (L := L))) hlow (by omega) sAll lAll oAll0 (by omega)
  rw [ev1, eh1, hN.x] at ca
  apply ct_exit
  apply exit_eq; exact rfl
  apply ct_seq
  apply ct_region
  iterate 2 (apply seq_plain; exact do_move rfl; exact rfl)
  apply seq_call (ht := rfl); exact ca; exact rfl
  refine seqL_to (l' := [(0, .slice q t.length c), (1, .slice r l.length d), (2, .slice p w.length e), (11, .slice (some pl) all.length all.length), (135, .tuple ⟨[.slice pa all.length all.length, I 0]⟩)]) (by repeat (first | exact sub_nil | apply sub_cons rfl)) ext_base (by simp) ?_
  obtain ⟨h3, hh3⟩ : ∃ h3, h3 = ext h2 lo (L ++ X1) := ⟨_, rfl⟩
  have hq' : OldS h3 r := by rw [hh3]; exact hq'.ext
  have hse : SlAt h3 2 tb q t := by rw [hh3]; exact hse.ext (ext_Ext hc')
  have hre : SlAt h3 4 bk r l := by rw [hh3]; exact hre.ext (ext_Ext hc')
  have hwe : SlAt h3 4 rq p w := by rw [hh3]; exact hwe.ext (ext_Ext hc')
  have hbl' : BlkS h3 r := by rw [hh3]; exact hbl'.ext (ext_Ext hc')
  have hbt' : BlkS h3 q := by rw [hh3]; exact hbt'.ext (ext_Ext hc')
  have sAll : SlAt h3 4 bk (some pl) all := by rw [hh3]; exact sAll.ext (ext_more hc')
  have oAll : OldS h3 (some pl) := by rw [hh3]; exact oAll
  have hE : Ext H h3 := by rw [hh3]; exact hE.trans (ext_Ext hc')
  have hc' : Closed h3 := by rw [hh3]; exact ext_closed hc'
  have aw := fun h4 (hE2 : Ext h3 h4) => haw _ (hE.trans hE2)
  rw [← hh3] at sA ⊢
  refine seq_anyLo fun lo => ?_
  clear hh3 ca ev1 eh1 ok1 bad1 hnow oAll0 hpl sO hO
  have cOv := Overbooked_c (H := ext h3 lo []) (c := c) (d := all.length) (hse.ext (ext_Ext hc')) hlow (by omega) (sAll.ext (ext_Ext hc')) lAll oAll.ext (by omega)
  rw [hN.ov] at cOv
  obtain ⟨A, hAe⟩ : ∃ A, A = asgV t all := ⟨_, rfl⟩
  have hP := hN.asi.done
  rw [← hAe] at sA hP
  have hAl := hP.len
  have ck := CheckAssign_c (H := ext h3 lo []) (c := c) (d := all.length) (e := all.length) (hse.ext (ext_Ext hc')) hlow (by omega) (sAll.ext (ext_Ext hc')) lAll (by omega) (sA.ext (ext_Ext hc')) (by omega)
  rw [cas_zero hN.both hP, hAl] at ck
  clear hAe
  apply seq_plain; exact do_move rfl; exact rfl
  iterate 2 (apply seq_plain; exact do_extract rfl rfl; exact rfl)
  iterate 2 (apply seq_plain; exact do_assign rfl; exact rfl)
  apply seq_nil
  apply ct_seq
  apply ct_region
  iterate 2 (apply seq_plain; exact do_move rfl; exact rfl)
  apply seq_call (ht := rfl); exact cOv; exact rfl
  apply seq_plain; exact do_move rfl; exact rfl
  iterate 3 (apply seq_plain; exact do_extract rfl rfl; exact rfl)
  iterate 3 (apply seq_plain; exact do_assign rfl; exact rfl)
  apply seq_nil
  iterate 2 (apply ct_seq)
  apply ct_region
  apply seq_plain; exact do_move rfl; exact rfl
  apply seq_plain; exact do_binInt rfl rfl rfl trivial; exact rfl
  apply seq_plain; exact do_move rfl; exact rfl
  apply seq_guard (hd := rfl) (hl := rfl); exact do_move rfl; exact rfl
  apply seq_guard (hd := rfl) (hl := rfl); exact do_binInt rfl rfl rfl trivial; exact rfl
  apply seq_plain; exact do_pick_f rfl rfl; exact rfl
  apply seq_plain; exact do_move rfl; exact rfl
  apply seq_guard (hd := rfl) (hl := rfl); exact do_move rfl; exact rfl
  apply seq_guard (hd := rfl) (hl := rfl); exact do_lenS rfl rfl rfl; exact rfl
  apply seq_guard (hd := rfl) (hl := rfl); exact do_move rfl; exact rfl
  apply seq_guard (hd := rfl) (hl := rfl); exact do_lenS rfl rfl rfl; exact rfl
  apply seq_guard (hd := rfl) (hl := rfl); exact do_binInt rfl rfl rfl trivial; exact rfl
  apply seq_plain; exact do_pick_f rfl rfl; exact rfl
  apply seq_plain; exact do_move rfl; exact rfl
  simp only [bne_self_eq_false]
  iterate 3 (apply seq_guard (hd := rfl) (hl := rfl); exact do_move rfl; exact rfl)
  apply seq_gcall (hg := rfl) (hl := rfl) (ht := rfl); exact ck; exact rfl
  apply seq_guard (hd := rfl) (hl := rfl); exact do_binInt rfl rfl rfl trivial; exact rfl
  apply seq_plain; exact do_pick_f rfl rfl; exact rfl
  apply seq_nil
  refine ct_cond_f rfl rfl ?_
  clear cOv ck
  apply ct_skip
  iterate 2 (apply ct_seq)
  apply ct_region
  apply seq_plain; exact do_move rfl; exact rfl
  apply seq_plain; exact do_lenS rfl rfl rfl; exact rfl
  apply seq_plain; exact do_move rfl; exact rfl
  apply seq_nil
  apply ct_block
  apply ct_loop
  refine lt_up (fun i => [(0, .slice q t.length c), (1, .slice r l.length d), (2, .slice p w.length e), (11, .slice (some pl) all.length all.length), (14, .slice pa all.length all.length), (166, I all.length), (167, I i)]) (fun _ => True) all.length (fun i hi _ ih => ?_) 0 (by omega) trivial (by repeat (first | exact sub_nil | apply sub_cons rfl))
  apply ct_seq
  apply ct_region
  apply seq_plain; exact do_binInt rfl rfl rfl trivial; exact rfl
  apply seq_nil
  apply ct_seq
  refine ct_cond rfl (fun h1 => ?_) (fun h1 => ?_)
  · simp only [decide_eq_true_eq, Int.ofNat_lt] at h1
    have hiA : i < A.length := by omega
    have ea := hP.a1 h1 hiA
    obtain ⟨b2, o2, cs2, z2, st2, ro2, e2, hg2, hw2⟩ := sAll.out (by intro e; rw [e] at h1; simp at h1)
    obtain ⟨b5, o5, cs5, z5, st5, ro5, rfl, hg5, hw5⟩ := sA.out (by intro e; rw [e] at hiA; simp at hiA)
    cases e2
    apply ct_skip
    apply ct_seq
    apply ct_block
    apply ct_seq
    apply ct_region
    apply seq_plain; exact do_move rfl; exact rfl
    apply seq_plain; exact do_assign rfl; exact rfl
    apply seq_nil
    apply ct_seq
    apply ct_region
    iterate 2 (apply seq_plain; exact do_move rfl; exact rfl)
    apply seq_nil
    apply ct_block
    apply ct_loop
    refine lt_up (fun k => [(0, .slice q t.length c), (1, .slice r l.length d), (2, .slice p w.length e), (11, .slice (some ⟨b2, o2, none⟩) all.length all.length), (14, .slice (some ⟨b5, o5, none⟩) all.length all.length), (19, I i), (166, I all.length), (167, I i), (170, I i), (171, I k)]) (fun _ => True) i (fun k hk _ ih2 => ?_) 0 (by omega) trivial (by repeat (first | exact sub_nil | apply sub_cons rfl))
    apply ct_seq
    apply ct_region
    apply seq_plain; exact do_binInt rfl rfl rfl trivial; exact rfl
    apply seq_nil
    apply ct_seq
    refine ct_cond rfl (fun h4 => ?_) (fun h4 => ?_)
    · simp only [decide_eq_true_eq, Int.ofNat_lt] at h4
      have hkA : k < A.length := by omega
      have hkl : k < all.length := by omega
      have sp := ea.sep k hkl hkA (by omega)
      apply ct_skip
      apply ct_seq
      apply ct_block
      apply ct_seq
      apply ct_region
      apply seq_plain; exact do_move rfl; exact rfl
      apply seq_plain; exact do_assign rfl; exact rfl
      apply seq_nil
      apply ct_seq
      apply ct_draw (by assumption); decide +kernel
      iterate 2 (apply sd_plain (hfree := rfl); intro _; exact do_move rfl; exact rfl)
      apply sd_plain (hfree := rfl); intro _; exact do_indexAddrS rfl rfl rfl (by exact idx_nat (by omega)); exact rfl
      apply sd_look (hfree := rfl); exact do_load rfl (by exact ext_get_old (by assumption) (by assumption)) rfl (by exact pt_sl0 (by assumption) (by omega)); exact rfl
      iterate 2 (apply sd_plain (hfree := rfl); intro _; exact do_move rfl; exact rfl)
      apply sd_plain (hfree := rfl); intro _; exact do_indexAddrS rfl rfl rfl (by exact idx_nat (by omega)); exact rfl
      apply sd_look (hfree := rfl); exact do_load rfl (by exact ext_get_old (by assumption) (by assumption)) rfl (by exact pt_sl0 (by assumption) (by omega)); exact rfl
      apply sd_plain (hfree := rfl); intro _; exact do_binInt rfl rfl rfl trivial; exact rfl
      apply sd_plain (hfree := rfl); intro _; exact do_move rfl; exact rfl
      refine sd_J [(0, .slice q t.length c), (1, .slice r l.length d), (2, .slice p w.length e), (11, .slice (some ⟨b2, o2, none⟩) all.length all.length), (14, .slice (some ⟨b5, o5, none⟩) all.length all.length), (19, I i), (166, I all.length), (167, I i), (170, I i), (171, I k), (208, .bool false)] (ds := []) (h := ext h3 lo []) ?_ ?_
      · refine sd_gsplit rfl rfl (fun w1 => ?_) (fun w1 => ?_)
        · have w1 : (A[i] == A[k]) = true := w1
          have sp := sp (by simpa using w1)
          unfold meetB at sp
          iterate 2 (apply sd_guard (hfree := rfl) (hg := rfl) (hl := rfl); intro _; exact do_move rfl; exact rfl)
          apply sd_guard (hfree := rfl) (hg := rfl) (hl := rfl); intro _; exact do_indexAddrS rfl rfl rfl (by exact idx_nat (by omega)); exact rfl
          apply sd_guard (hfree := rfl) (hg := rfl) (hl := rfl); intro _; exact do_fieldAddr rfl rfl; exact rfl
          apply sd_guardL (hfree := rfl) (hg := rfl) (hl := rfl); exact do_load rfl (by exact ext_get_old (by assumption) (by assumption)) rfl (by exact pt_sl1 (by assumption) (by omega) (Nat.le_of_ble_eq_true rfl) rfl); exact rfl
          iterate 2 (apply sd_guard (hfree := rfl) (hg := rfl) (hl := rfl); intro _; exact do_move rfl; exact rfl)
          apply sd_guard (hfree := rfl) (hg := rfl) (hl := rfl); intro _; exact do_indexAddrS rfl rfl rfl (by exact idx_nat (by omega)); exact rfl
          apply sd_guard (hfree := rfl) (hg := rfl) (hl := rfl); intro _; exact do_fieldAddr rfl rfl; exact rfl
          apply sd_guardL (hfree := rfl) (hg := rfl) (hl := rfl); exact do_load rfl (by exact ext_get_old (by assumption) (by assumption)) rfl (by exact pt_sl1 (by assumption) (by omega) (Nat.le_of_ble_eq_true rfl) rfl); exact rfl
          apply sd_guard (hfree := rfl) (hg := rfl) (hl := rfl); intro _; exact do_binInt rfl rfl rfl trivial; exact rfl
          apply sd_plain (hfree := rfl); intro _; exact do_pick_t rfl rfl; exact rfl
          apply sd_plain (hfree := rfl); intro _; exact do_move rfl; exact rfl
          refine sd_gsplit rfl rfl (fun w2 => ?_) (fun w2 => ?_)
          · have w2 : decide (all[i].frm < all[k].to) = true := w2
            rw [w2, Bool.and_true] at sp
            iterate 2 (apply sd_guard (hfree := rfl) (hg := rfl) (hl := rfl); intro _; exact do_move rfl; exact rfl)
            apply sd_guard (hfree := rfl) (hg := rfl) (hl := rfl); intro _; exact do_indexAddrS rfl rfl rfl (by exact idx_nat (by omega)); exact rfl
            apply sd_guard (hfree := rfl) (hg := rfl) (hl := rfl); intro _; exact do_fieldAddr rfl rfl; exact rfl
            apply sd_guardL (hfree := rfl) (hg := rfl) (hl := rfl); exact do_load rfl (by exact ext_get_old (by assumption) (by assumption)) rfl (by exact pt_sl1 (by assumption) (by omega) (Nat.le_of_ble_eq_true rfl) rfl); exact rfl
            iterate 2 (apply sd_guard (hfree := rfl) (hg := rfl) (hl := rfl); intro _; exact do_move rfl; exact rfl)
            apply sd_guard (hfree := rfl) (hg := rfl) (hl := rfl); intro _; exact do_indexAddrS rfl rfl rfl (by exact idx_nat (by omega)); exact rfl
            apply sd_guard (hfree := rfl) (hg := rfl) (hl := rfl); intro _; exact do_fieldAddr rfl rfl; exact rfl
            apply sd_guardL (hfree := rfl) (hg := rfl) (hl := rfl); exact do_load rfl (by exact ext_get_old (by assumption) (by assumption)) rfl (by exact pt_sl1 (by assumption) (by omega) (Nat.le_of_ble_eq_true rfl) rfl); exact rfl
            apply sd_guard (hfree := rfl) (hg := rfl) (hl := rfl); intro _; exact do_binInt rfl rfl rfl trivial; exact rfl
            apply sd_plain (hfree := rfl); intro _; exact do_pick_t rfl rfl; exact rfl
            apply sd_nil
            rw [sp]
            simp only [List.map_nil, List.append_nil]
            exact jp_of (by repeat (first | exact sub_nil | apply sub_cons rfl))
          · apply sd_passed (hg := rfl) (hl := rfl) (hb := rfl); exact rfl
            iterate 10 (apply sd_passed (hg := rfl) (hl := rfl) (hb := rfl); exact rfl)
            apply sd_plain (hfree := rfl); intro _; exact do_pick_f rfl rfl; exact rfl
            apply sd_nil
            simp only [List.map_nil, List.append_nil]
            exact jp_of (by repeat (first | exact sub_nil | apply sub_cons rfl))
        · apply sd_passed (hg := rfl) (hl := rfl) (hb := rfl); exact rfl
          iterate 10 (apply sd_passed (hg := rfl) (hl := rfl) (hb := rfl); exact rfl)
          apply sd_plain (hfree := rfl); intro _; exact do_pick_f rfl rfl; exact rfl
          apply sd_plain (hfree := rfl); intro _; exact do_move rfl; exact rfl
          iterate 11 (apply sd_passed (hg := rfl) (hl := rfl) (hb := rfl); exact rfl)
          apply sd_plain (hfree := rfl); intro _; exact do_pick_f rfl rfl; exact rfl
          apply sd_nil
          simp only [List.map_nil, List.append_nil]
          exact jp_of (by repeat (first | exact sub_nil | apply sub_cons rfl))
      refine ct_cond_f rfl rfl ?_
      apply ct_skip
      apply ct_region
      apply seq_plain; exact do_succ rfl (by omega); exact rfl
      apply seq_plain; exact do_move rfl; exact rfl
      apply seq_nil
      exact lt_sub (by repeat (first | exact sub_nil | apply sub_cons rfl)) (ih2 (k + 1) (by omega) (by omega) trivial)
    have h4 : k = i := by simp at h4; omega
    subst h4
    clear ih2 hk
    apply ct_exit
    apply exit_eq; exact rfl
    apply ct_region
    apply seq_plain; exact do_succ rfl (by omega); exact rfl
    apply seq_plain; exact do_move rfl; exact rfl
    apply seq_nil
    exact lt_sub (by repeat (first | exact sub_nil | apply sub_cons rfl)) (ih (k + 1) (by omega) (by omega) trivial)
  have h1 : i = all.length := by simp at h1; omega
  subst h1
  clear ih hi sA hP hAl A
  apply ct_exit
  apply exit_eq; exact rfl
  iterate 2 (apply ct_seq)
  apply ct_region
  apply seq_plain; exact do_move rfl; exact rfl
  apply seq_plain; exact do_lenS rfl rfl rfl; exact rfl
  apply seq_plain; exact do_move rfl; exact rfl
  apply seq_nil
  apply ct_block
  apply ct_loop
  refine lt_meas (α := Nat × List (Option ABlk)) (fun a => [(0, .slice q t.length c), (1, .slice r l.length d), (2, .slice p w.length e), (11, .slice (some pl) all.length all.length), (211, .slice (some pl) all.length all.length), (212, I all.length), (213, I a.1)]) (fun a => ext h3 lo a.2) (fun a => a.1 ≤ all.length) (fun a => all.length - a.1) (fun a hx ih => ?_) (0, []) (Nat.zero_le _) (by repeat (first | exact sub_nil | apply sub_cons rfl)) (.refl _)
  obtain ⟨i, L⟩ := a
  simp only at hx ih ⊢
  have ih' := fun i' L' a1 a2 => ih (i', L') a1 a2
  simp only at ih'
  clear ih
  apply ct_seq
  apply ct_region
  apply seq_plain; exact do_binInt rfl rfl rfl trivial; exact rfl
  apply seq_nil
  apply ct_seq
  refine ct_cond rfl (fun h1 => ?_) (fun h1 => ?_)
  · simp only [decide_eq_true_eq, Int.ofNat_lt] at h1
    obtain ⟨d1, d2, d3⟩ := hN.dep h1
    have cD := fun L => Depth_c (H := ext h3 lo L) (k := all[i].kind) (sAll.ext (ext_Ext hc')) lAll oAll.ext (by omega)
    simp only [d1] at cD
    obtain ⟨D, hD⟩ : ∃ D, D = depV all all[i].kind := ⟨_, rfl⟩
    simp only [← hD] at cD
    rw [← hD] at d2 d3
    clear hD d1
    have ct4 : cntK t all[i].kind ≤ t.length := by have := cntK_take (t := t) (k := all[i].kind) (i := t.length); rw [List.take_length] at this; omega
    obtain ⟨b2, o2, cs2, z2, st2, ro2, e2, hg2, hw2⟩ := sAll.out (by intro e; rw [e] at h1; simp at h1)
    cases e2
    apply ct_skip
    apply ct_seq
    apply ct_block
    apply ct_seq
    apply ct_region
    apply seq_plain; exact do_indexAddrS rfl rfl rfl (by exact idx_nat (by omega)); exact rfl
    apply seq_plain; exact do_load rfl (by exact ext_get_old (by assumption) (by assumption)) rfl (by exact pt_sl (by assumption) (by omega)); exact rfl
    apply seq_newP; exact do_alloc rfl rfl; exact rfl
    apply seq_putC (hc := by assumption); rotate_left; exact do_store rfl rfl (by exact ext_get_new List.getElem?_concat_length) rfl rfl (nb_own _); rotate_left; exact (by simp)
    apply ct_seq
    apply ct_region
    apply seq_plain; exact do_assign rfl; exact rfl
    apply seq_nil
    iterate 2 (apply ct_seq)
    apply ct_region
    apply seq_plain; exact do_move rfl; exact rfl
    apply seq_plain; exact do_lenS rfl rfl rfl; exact rfl
    apply seq_plain; exact do_move rfl; exact rfl
    apply seq_nil
    apply ct_block
    apply ct_loop
    rw [set_mid rfl]
    obtain ⟨L2, hL2⟩ : ∃ L2, L2 = L ++ [some (ABlk.cells (bk all[i]) 0 false false)] := ⟨_, rfl⟩
    have f2 : L2[L.length]? = some (some (.cells (bk all[i]) 0 false false)) := by rw [hL2]; exact List.getElem?_concat_length
    refine lt_meas (α := Nat × List (Option ABlk)) (fun a => [(0, .slice q t.length c), (1, .slice r l.length d), (2, .slice p w.length e), (11, .slice (some ⟨b2, o2, none⟩) all.length all.length), (22, .pointer (some ⟨nb h3 L.length, 0, none⟩)), (23, I (cntK (t.take a.1) all[i].kind)), (211, .slice (some ⟨b2, o2, none⟩) all.length all.length), (212, I all.length), (213, I i), (217, .slice q t.length c), (218, I t.length), (219, I a.1)]) (fun a => ext h3 lo a.2) (fun a => a.1 ≤ t.length ∧ a.2[L.length]? = some (some (.cells (bk all[i]) 0 false false))) (fun a => t.length - a.1) (fun a hx2 ih2 => ?_) (0, L2) ⟨Nat.zero_le _, f2⟩ (by repeat (first | exact sub_nil | apply sub_cons rfl)) (by rw [hL2]; exact .refl _)
    clear f2 hL2 L2
    obtain ⟨K, hK⟩ : ∃ K, K = L.length := ⟨_, rfl⟩
    rw [← hK] at hx2 ih2 ⊢
    clear hK L
    obtain ⟨j, M⟩ := a
    obtain ⟨hj, hM⟩ := hx2
    simp only at hj hM ih2 ⊢
    have ih2' := fun j' M' a1 a2 a3 => ih2 (j', M') a1 ⟨a2, a3⟩
    simp only at ih2'
    clear ih2
    apply ct_seq
    apply ct_region
    apply seq_plain; exact do_binInt rfl rfl rfl trivial; exact rfl
    apply seq_nil
    apply ct_seq
    refine ct_cond rfl (fun h4 => ?_) (fun h4 => ?_)
    · simp only [decide_eq_true_eq, Int.ofNat_lt] at h4
      obtain ⟨b6, o6, cs6, z6, st6, ro6, rfl, hg6, hw6⟩ := hse.out (by intro e; rw [e] at h4; simp at h4)
      have se := cntK_snoc (k := all[i].kind) h4
      have sl := cntK_take (t := t) (k := all[i].kind) (i := j)
      apply ct_skip
      apply ct_seq
      apply ct_block
      apply ct_seq
      apply ct_region
      apply seq_plain; exact do_indexAddrS rfl rfl rfl (by exact idx_nat (by omega)); exact rfl
      apply seq_plain; exact do_load rfl (by exact ext_get_old (by assumption) (by assumption)) rfl (by exact pt_sl (by assumption) (by omega)); exact rfl
      apply seq_newP; exact do_alloc rfl rfl; exact rfl
      apply seq_putC (hc := by assumption); rotate_left; exact do_store rfl rfl (by exact ext_get_new List.getElem?_concat_length) rfl rfl (nb_own _); rotate_left; exact (by simp)
      apply ct_seq
      apply ct_region
      apply seq_plain; exact do_fieldAddr rfl rfl; exact rfl
      apply seq_plain; exact do_load rfl (by exact ext_get_new getSetLast) rfl (by exact rfl); exact rfl
      apply seq_plain; exact do_fieldAddr rfl rfl; exact rfl
      rw [set_mid rfl]
      apply seq_plain; exact do_load rfl (by exact ext_get_new (getApp (by assumption))) rfl (by exact rfl); exact rfl
      apply seq_plain; exact do_binStr rfl rfl rfl; exact rfl
      apply seq_nil
      refine ct_JE [(0, .slice (some ⟨b6, o6, none⟩) t.length c), (1, .slice r l.length d), (2, .slice p w.length e), (11, .slice (some ⟨b2, o2, none⟩) all.length all.length), (22, .pointer (some ⟨nb h3 K, 0, none⟩)), (23, I (cntK (t.take (j + 1)) all[i].kind)), (211, .slice (some ⟨b2, o2, none⟩) all.length all.length), (212, I all.length), (213, I i), (217, .slice (some ⟨b6, o6, none⟩) t.length c), (218, I t.length), (219, I j)] (ds := []) (h := ext h3 lo (M ++ [some (.cells (tb t[j]) 0 false false)])) ?_ ?_
      · rw [se]
        refine ct_cond rfl (fun w1 => ?_) (fun w1 => ?_)
        · have w1 : byteL t[j].kind.data.toList all[i].kind.data.toList = true := w1
          rw [bytes_eq, decide_eq_true_eq] at w1
          rw [if_pos w1]
          apply ct_region
          apply seq_plain; exact do_move rfl; exact rfl
          apply seq_plain; exact do_succ rfl (by omega); exact rfl
          apply seq_plain; exact do_assign rfl; exact rfl
          apply seq_nil
          exact jp_of (by repeat (first | exact sub_nil | apply sub_cons rfl))
        · have w1 : byteL t[j].kind.data.toList all[i].kind.data.toList = false := w1
          rw [bytes_eq, decide_eq_false_iff_not] at w1
          rw [if_neg w1]
          apply ct_skip
          exact jp_of (by repeat (first | exact sub_nil | apply sub_cons rfl))
      apply ct_region
      apply seq_plain; exact do_succ rfl (by omega); exact rfl
      apply seq_plain; exact do_move rfl; exact rfl
      apply seq_nil
      exact lt_to (by repeat (first | exact sub_nil | apply sub_cons rfl)) (.refl _) (ih2' (j + 1) _ (by omega) (by omega) (getApp hM))
    have h4 : j = t.length := by simp at h4; omega
    subst h4
    rw [List.take_length]
    clear ih2' hj
    have y1 : decide (D.1 < 1) = false := decide_eq_false (by omega)
    apply ct_exit
    apply exit_eq; exact rfl
    apply ct_seq
    apply ct_region
    apply seq_plain; exact do_move rfl; exact rfl
    apply seq_plain; exact do_fieldAddr rfl rfl; exact rfl
    apply seq_plain; exact do_load rfl (by exact ext_get_new (by assumption)) rfl (by exact rfl); exact rfl
    apply seq_call (ht := rfl); exact cD _; exact rfl
    apply seq_plain; exact do_move rfl; exact rfl
    iterate 3 (apply seq_plain; exact do_extract rfl rfl; exact rfl)
    iterate 3 (apply seq_plain; exact do_assign rfl; exact rfl)
    apply seq_nil
    apply ct_seq
    apply ct_region
    apply seq_plain; exact do_move rfl; exact rfl
    apply seq_plain; exact do_binInt rfl rfl rfl trivial; exact rfl
    apply seq_plain; exact do_move rfl; exact rfl
    apply seq_guard (hd := rfl) (hl := rfl); exact do_move rfl; exact rfl
    apply seq_guard (hd := rfl) (hl := rfl); exact do_binInt rfl rfl rfl trivial; exact rfl
    apply seq_plain; exact do_pick_f rfl rfl; exact rfl
    apply seq_plain; exact do_move rfl; exact rfl
    rw [y1]
    iterate 2 (apply seq_guard (hd := rfl) (hl := rfl); exact do_move rfl; exact rfl)
    apply seq_guard (hd := rfl) (hl := rfl); exact do_binInt rfl rfl rfl trivial; exact rfl
    apply seq_plain; exact do_pick_f rfl rfl; exact rfl
    apply seq_nil
    refine ct_cond_f rfl (decide_eq_false (by omega)) ?_
    apply ct_skip
    apply ct_region
    apply seq_plain; exact do_succ rfl (by omega); exact rfl
    apply seq_plain; exact do_move rfl; exact rfl
    apply seq_nil
    exact lt_to (by repeat (first | exact sub_nil | apply sub_cons rfl)) (.refl _) (ih' (i + 1) _ (by omega) (by omega))
  have h1 : i = all.length := by simp at h1; omega
  subst h1
  clear ih' hx hN
  apply ct_exit
  apply exit_eq; exact rfl
  iterate 2 (apply ct_seq)
  apply ct_region
  apply seq_plain; exact do_move rfl; exact rfl
  apply seq_plain; exact do_lenS rfl rfl rfl; exact rfl
  apply seq_plain; exact do_move rfl; exact rfl
  apply seq_nil
  apply ct_block
  apply ct_loop
  refine lt_upB hc' (fun i => [(0, .slice q t.length c), (1, .slice r l.length d), (251, .slice p w.length e), (252, I w.length), (253, I i)]) (fun _ => True) w.length (fun i h4 lo4 hc4 hE4 hi _ ih => ?_) 0 (Nat.zero_le _) trivial (by repeat (first | exact sub_nil | apply sub_cons rfl))
  have hse : SlAt h4 2 tb q t := (hse.ext (ext_Ext hc')).ext hE4
  have hre : SlAt h4 4 bk r l := (hre.ext (ext_Ext hc')).ext hE4
  have hwe : SlAt h4 4 rq p w := (hwe.ext (ext_Ext hc')).ext hE4
  have hbl' : BlkS h4 r := (hbl'.ext (ext_Ext hc')).ext hE4
  have hbt' : BlkS h4 q := (hbt'.ext (ext_Ext hc')).ext hE4
  have hq' : OldS h4 r := old_blk hc4 hbl'
  have hE : Ext H h4 := (hE.trans (ext_Ext hc')).trans hE4
  clear hE4 hc' aw
  apply ct_seq
  apply ct_region
  apply seq_plain; exact do_binInt rfl rfl rfl trivial; exact rfl
  apply seq_nil
  apply ct_seq
  refine ct_cond rfl (fun h1 => ?_) (fun h1 => ?_)
  · simp only [decide_eq_true_eq, Int.ofNat_lt] at h1
    have hz := ques_one hqz h1
    have htne : t ≠ [] := by
      intro e
      have := ((ques_ok hqz).2 _ (List.getElem_mem h1)).k
      rw [e] at this
      simp [cntK] at this
    obtain ⟨bw, ow, csw, zw, sw, row, rfl, hgw, hww⟩ := hwe.out (by intro e; rw [e] at h1; simp at h1)
    obtain ⟨z, hzz⟩ : ∃ z, z = w[i] := ⟨_, rfl⟩
    rw [← hzz] at hz
    obtain ⟨X0, hX0⟩ : ∃ X0 : List (Option ABlk), X0 = [] ++ [some (.cells (rq z) 0 false false)] ++ [some (.cells ([z].flatMap rq) 4 false false)] := ⟨_, rfl⟩
    have z0 : X0[0]? = some (some (.cells (rq z) 0 false false)) := by rw [hX0]; rfl
    have c1 := Serve_c (H := ext h4 lo4 X0) (c := c) (d := d) (e := 1) (w := [z]) (hse.ext (ext_Ext hc4)) hlow (by omega) (hre.ext (ext_Ext hc4)) hlow2 hq'.ext (hbl'.ext (ext_Ext hc4)) hd (by omega) (slAt_flat rq_len (ext_get_new (k := 1) (by rw [hX0]; rfl))) ⟨Nat.le_refl _, fun e => (by cases e), fun a e => (by cases e; rfl)⟩ (by simp)
    simp only [lstH_ext, ext_fresh] at c1
    apply ct_skip
    apply ct_seq
    apply ct_block
    apply ct_seq
    apply ct_region
    apply seq_plain; exact do_indexAddrS rfl rfl rfl (by exact idx_nat (by omega)); exact rfl
    apply seq_plain; exact do_load rfl (by exact ext_get_old (by assumption) (by assumption)) rfl (by exact pt_sl (by assumption) (by omega)); exact rfl
    apply seq_newP; exact do_alloc rfl rfl; exact rfl
    apply seq_putC (hc := by assumption); rotate_left; exact do_store rfl rfl (by exact ext_get_new rfl) rfl rfl (nb_own _); rotate_left; exact Nat.le_of_ble_eq_true rfl
    apply ct_seq
    apply ct_region
    iterate 2 (apply seq_plain; exact do_move rfl; exact rfl)
    apply seq_plain; exact do_load rfl (by exact ext_get_new rfl) rfl (by exact rfl); exact rfl
    apply seq_newS; exact do_buildSlice rfl rfl rfl rfl rfl rfl rfl; exact rfl
    refine seqL_to (l' := [(0, .slice q t.length c), (1, .slice r l.length d), (30, .pointer (some ⟨nb h4 0, 0, none⟩)), (251, .slice (some ⟨bw, ow, none⟩) w.length e), (252, I w.length), (253, I i), (258, .slice q t.length c), (259, .slice r l.length d), (261, .slice (some ⟨nb h4 1, 0, none⟩) 1 1)]) (h' := ext h4 lo4 X0) (by repeat (first | exact sub_nil | apply sub_cons rfl)) (by rw [hX0, hzz]; exact .refl _) (by simp) ?_
    apply seq_call (ht := rfl); exact c1; exact rfl
    clear c1 hX0 hzz
    obtain ⟨O1, hO1⟩ : ∃ O1, O1 = srvO t l [z] := ⟨_, rfl⟩
    obtain ⟨E1, hE1⟩ : ∃ E1, E1 = srvE t l [z] := ⟨_, rfl⟩
    obtain ⟨p1, hp1⟩ : ∃ p1, p1 = lstP (nb h4 X0.length) O1 := ⟨_, rfl⟩
    rw [← hO1, ← hE1]
    have sO1 : SlAt (ext h4 lo4 (X0 ++ lstL 1 i1 O1)) 1 i1 p1 O1 := by rw [hp1]; exact lst_slAt (fun _ => rfl)
    have fz : (ext h4 lo4 (X0 ++ lstL 1 i1 O1)).get (nb h4 0) = some (.cells (rq z) 0 false false) := ext_get_new (getApp z0)
    obtain ⟨bz, hbz⟩ : ∃ bz, bz = nb h4 0 := ⟨_, rfl⟩
    rw [← hbz] at fz ⊢
    refine seqL_to (l' := [(0, .slice q t.length c), (1, .slice r l.length d), (30, .pointer (some ⟨bz, 0, none⟩)), (251, .slice (some ⟨bw, ow, none⟩) w.length e), (252, I w.length), (253, I i), (262, .tuple ⟨[.slice p1 O1.length O1.length, I E1]⟩)]) (by rw [hp1]; (repeat (first | exact sub_nil | apply sub_cons rfl))) ext_base (by simp) ?_
    obtain ⟨h5, hh5⟩ : ∃ h5, h5 = ext h4 lo4 (X0 ++ lstL 1 i1 O1) := ⟨_, rfl⟩
    have e45 : Ext h4 h5 := by rw [hh5]; exact ext_Ext hc4
    have hc5 : Closed h5 := by rw [hh5]; exact ext_closed hc4
    rw [← hh5] at sO1 fz ⊢
    clear hh5 hp1 hbz z0
    have hse := hse.ext e45
    have hre := hre.ext e45
    have hbl' := hbl'.ext e45
    have hbt' := hbt'.ext e45
    refine seq_anyLo fun lo5 => ?_
    have hwt : ∀ lo L, Wv (ext h5 lo L) 2 tb (.slice q t.length c) t := fun lo L => wv_of tb_len (hse.ext (ext_Ext hc5)) (hbt'.ext (ext_Ext hc5))
    obtain ⟨b', o', c', cs, z', k', ro', e1, hg, hsl⟩ := (hwt lo5 []).blk (by omega) tb_len htne
    have hg : ∀ lo L, (ext h5 lo L).get b' = some (.cells cs z' k' ro') := fun lo L => by
      obtain ⟨b2, o2, cs2, z2, s2, r2, e2, hg2, _⟩ := hse.out htne
      rw [e2] at e1
      cases e1
      have h3 := ext_get_old (lo := lo5) (L := []) hc5 hg2
      rw [hg] at h3
      rw [h3]
      exact ext_get_old hc5 hg2
    injection e1 with e1 _ e3
    cases e1
    subst e3
    clear hwt
    apply seq_plain; exact do_move rfl; exact rfl
    iterate 2 (apply seq_plain; exact do_extract rfl rfl; exact rfl)
    iterate 2 (apply seq_plain; exact do_assign rfl; exact rfl)
    apply seq_nil
    apply ct_seq
    apply ct_draw (by assumption); decide +kernel
    apply sd_newS (hfree := rfl); exact do_buildSlice rfl rfl rfl rfl rfl rfl rfl; exact rfl
    apply sd_plain (hfree := rfl); intro _; exact do_move rfl; exact rfl
    refine sd_newSA rfl rfl (by decide +kernel) (do_appendY rfl rfl rfl rfl rfl rfl (hg _ _) hsl (ext_get_new rfl) (app_bdT (by omega)) (Nat.ne_of_beq_eq_false rfl) (Nat.ne_of_beq_eq_false rfl) (List.length_pos_iff.2 htne)) rfl ?_
    apply sd_plain (hfree := rfl); intro _; exact do_fieldAddr rfl rfl; exact rfl
    apply sd_look (hfree := rfl); exact do_load rfl (by exact ext_get_old (by assumption) (by assumption)) rfl (by exact rfl); exact rfl
    apply sd_plain (hfree := rfl); intro _; exact do_build rfl rfl rfl rfl; exact rfl
    apply sd_newS (hfree := rfl); exact do_buildSlice rfl rfl rfl rfl rfl rfl rfl; exact rfl
    refine sd_pushK (k := 1) hc5 rfl (by decide +kernel) (Nat.lt_of_sub_eq_succ rfl) (do_append1 rfl rfl rfl rfl rfl rfl (ext_get_new rfl) rfl (ext_get_new rfl) tbs_len (nb_own _) rfl (app_bdT1 (by omega)) (Nat.ne_of_beq_eq_false rfl) (Nat.ne_of_beq_eq_false rfl) (by omega)) rfl ?_
    apply sd_plain (hfree := rfl); intro _; exact do_assign rfl; exact rfl
    apply sd_nil
    apply ct_seq
    apply ct_region
    iterate 2 (apply seq_plain; exact do_move rfl; exact rfl)
    obtain ⟨x, hx⟩ : ∃ x : Tb, x = ⟨strB [102, 117, 114, 116, 104, 101, 114, 57], z.kind⟩ := ⟨_, rfl⟩
    obtain ⟨more, hmo⟩ : ∃ more, more = t ++ [x] := ⟨_, rfl⟩
    have hml : more.length = t.length + 1 := by rw [hmo]; simp
    have hmc : t.flatMap tb ++ tb x = more.flatMap tb := by rw [hmo]; simp
    obtain ⟨X6, hX6⟩ : ∃ X6 : List (Option ABlk), X6 = [some (.cells [] 2 false false), none, some (.cells (tb x) 2 false false), some (.cells (more.flatMap tb) 2 true false)] := ⟨_, rfl⟩
    have f6 : X6[3]? = some (some (.cells (more.flatMap tb) 2 true false)) := by rw [hX6]; rfl
    refine seqL_to (l' := [(0, .slice (some ⟨b', o', none⟩) t.length c), (1, .slice r l.length d), (30, .pointer (some ⟨bz, 0, none⟩)), (31, .slice p1 O1.length O1.length), (32, I E1), (33, .slice (some ⟨nb h5 3, 0, none⟩) more.length more.length), (251, .slice (some ⟨bw, ow, none⟩) w.length e), (252, I w.length), (253, I i), (274, .slice (some ⟨nb h5 3, 0, none⟩) more.length more.length), (275, .slice r l.length d)]) (h' := ext h5 lo5 X6) (by rw [hml]; (repeat (first | exact sub_nil | apply sub_cons rfl))) (by rw [hX6, ← hmc, hx]; exact .refl _) (by simp) ?_
    have sM : SlAt (ext h5 lo5 X6) 2 tb (some ⟨nb h5 3, 0, none⟩) more := slAt_flat tb_len (ext_get_new f6)
    obtain ⟨pm, hpm⟩ : ∃ pm : Addr, pm = ⟨nb h5 3, 0, none⟩ := ⟨_, rfl⟩
    have lM : LowS (some pm) more.length more.length := ⟨Nat.le_refl _, fun e => (by cases e), fun a e => (by cases e; rw [hpm])⟩
    rw [← hpm] at sM ⊢
    clear hpm hX6 f6 hmc
    refine seqL_to (l' := [(0, .slice (some ⟨b', o', none⟩) t.length c), (1, .slice r l.length d), (30, .pointer (some ⟨bz, 0, none⟩)), (31, .slice p1 O1.length O1.length), (32, I E1), (33, .slice (some pm) more.length more.length), (251, .slice (some ⟨bw, ow, none⟩) w.length e), (252, I w.length), (253, I i), (274, .slice (some pm) more.length more.length), (275, .slice r l.length d)]) (by repeat (first | exact sub_nil | apply sub_cons rfl)) ext_base (by simp) ?_
    obtain ⟨h6, hh6⟩ : ∃ h6, h6 = ext h5 lo5 X6 := ⟨_, rfl⟩
    have e56 : Ext h5 h6 := by rw [hh6]; exact ext_Ext hc5
    have hc6 : Closed h6 := by rw [hh6]; exact ext_closed hc5
    rw [← hh6] at sM ⊢
    clear hh6 X6
    have hse := hse.ext e56
    have hre := hre.ext e56
    have hbl' := hbl'.ext e56
    have sO1 := sO1.ext e56
    have fz := e56 _ _ fz
    have e46 := e45.trans e56
    refine seq_anyLo fun lo6 => ?_
    have cO := nown_c (H := ext h6 lo6 []) (c := more.length) (d := d) (sM.ext (ext_Ext hc6)) (by omega) (hre.ext (ext_Ext hc6)) (by omega)
    simp only [lstH_ext, ext_fresh] at cO
    apply seq_call (ht := rfl); exact cO; exact rfl
    obtain ⟨x7, hx7⟩ : ∃ x7, x7 = lstP (nb h6 ([] : List (Option ABlk)).length) more := ⟨_, rfl⟩
    obtain ⟨y7, hy7⟩ : ∃ y7, y7 = lstP (nb h6 (([] : List (Option ABlk)) ++ lstL 2 tb more).length) l := ⟨_, rfl⟩
    have s7 : SlAt (ext h6 lo6 ([] ++ lstL 2 tb more ++ lstL 4 bk l)) 4 bk y7 l := by rw [hy7]; exact lst_slAt bk_len
    have r7 : SlAt (ext h6 lo6 ([] ++ lstL 2 tb more ++ lstL 4 bk l)) 2 tb x7 more := by
      have := lst_slAt (H := h6) (lo := lo6) (L := []) (m := 2) (f := tb) (l := more) tb_len
      rw [hx7]
      exact this.ext (ext_more hc6)
    refine seqL_to (l' := [(0, .slice (some ⟨b', o', none⟩) t.length c), (1, .slice r l.length d), (30, .pointer (some ⟨bz, 0, none⟩)), (31, .slice p1 O1.length O1.length), (32, I E1), (33, .slice (some pm) more.length more.length), (251, .slice (some ⟨bw, ow, none⟩) w.length e), (252, I w.length), (253, I i), (276, .tuple ⟨[.slice x7 more.length more.length, .slice y7 l.length l.length]⟩)]) (by rw [hx7, hy7]; (repeat (first | exact sub_nil | apply sub_cons rfl))) ext_base (by simp) ?_
    obtain ⟨h7, hh7⟩ : ∃ h7, h7 = ext h6 lo6 ([] ++ lstL 2 tb more ++ lstL 4 bk l) := ⟨_, rfl⟩
    have e67 : Ext h6 h7 := by rw [hh7]; exact ext_Ext hc6
    have hc7 : Closed h7 := by rw [hh7]; exact ext_closed hc6
    rw [← hh7] at s7 r7 ⊢
    clear hh7 cO hx7 hy7
    have hse := hse.ext e67
    have hre := hre.ext e67
    have hbl' := hbl'.ext e67
    have sO1 := sO1.ext e67
    have sM := sM.ext e67
    have fz := e67 _ _ fz
    have e47 := e46.trans e67
    refine seq_anyLo fun lo7 => ?_
    apply seq_plain; exact do_move rfl; exact rfl
    iterate 2 (apply seq_plain; exact do_extract rfl rfl; exact rfl)
    iterate 2 (apply seq_plain; exact do_assign rfl; exact rfl)
    apply seq_nil
    iterate 2 (apply ct_seq)
    apply ct_region
    iterate 2 (apply seq_plain; exact do_move rfl; exact rfl)
    apply seq_call (ht := rfl); exact refCheck_c (r7.ext (ext_Ext hc7)) (by omega) (s7.ext (ext_Ext hc7)) (by omega); exact rfl
    apply seq_plain; exact do_binInt rfl rfl rfl trivial; exact rfl
    apply seq_nil
    refine ct_cond rfl (fun v => ?_) (fun v => ?_)
    · apply ct_exit
      apply exit_eq; exact rfl
      apply ct_region
      apply seq_plain; exact do_succ rfl (by omega); exact rfl
      apply seq_plain; exact do_move rfl; exact rfl
      apply seq_nil
      exact lt_sub (by repeat (first | exact sub_nil | apply sub_cons rfl)) (ih (i + 1) h7 _ _ hc7 e47 (by omega) (by omega) trivial)
    have v : bothE more l = 0 := by simpa using v
    have nq := nq_more hb hz hfit (x := x) (by rw [← hmo]; exact v)
    rw [← hE1, ← hO1, ← hmo] at nq
    have c3 := Serve_c (H := ext h7 lo7 ([] ++ [some (.cells ([z].flatMap rq) 4 false false)])) (c := more.length) (d := d) (e := 1) (t := more) (w := [z]) (sM.ext (ext_Ext hc7)) lM (by omega) (hre.ext (ext_Ext hc7)) hlow2 (old_blk (ext_closed hc7) (hbl'.ext (ext_Ext hc7))) (hbl'.ext (ext_Ext hc7)) hd (by omega) (slAt_flat rq_len (ext_get_new (k := 0) rfl)) ⟨Nat.le_refl _, fun e => (by cases e), fun a e => (by cases e; rfl)⟩ (by simp)
    simp only [lstH_ext, ext_fresh] at c3
    clear s7 r7 v hO1 hE1
    apply ct_skip
    apply ct_seq
    apply ct_region
    iterate 2 (apply seq_plain; exact do_move rfl; exact rfl)
    apply seq_plain; exact do_load rfl (by exact ext_get_old (by assumption) (by assumption)) rfl (by exact rfl); exact rfl
    apply seq_newS; exact do_buildSlice rfl rfl rfl rfl rfl rfl rfl; exact rfl
    refine seqL_to (l' := [(0, .slice (some ⟨b', o', none⟩) t.length c), (1, .slice r l.length d), (31, .slice p1 O1.length O1.length), (32, I E1), (251, .slice (some ⟨bw, ow, none⟩) w.length e), (252, I w.length), (253, I i), (284, .slice (some pm) more.length more.length), (285, .slice r l.length d), (287, .slice (some ⟨nb h7 0, 0, none⟩) 1 1)]) (h' := ext h7 lo7 ([] ++ [some (.cells ([z].flatMap rq) 4 false false)])) (by repeat (first | exact sub_nil | apply sub_cons rfl)) (.refl _) (by simp) ?_
    apply seq_call (ht := rfl); exact c3; exact rfl
    obtain ⟨O2, hO2⟩ : ∃ O2, O2 = srvO more l [z] := ⟨_, rfl⟩
    obtain ⟨E2, hE2⟩ : ∃ E2, E2 = srvE more l [z] := ⟨_, rfl⟩
    obtain ⟨Y0, hY0⟩ : ∃ Y0 : List (Option ABlk), Y0 = [] ++ [some (.cells ([z].flatMap rq) 4 false false)] := ⟨_, rfl⟩
    obtain ⟨p2, hp2⟩ : ∃ p2, p2 = lstP (nb h7 Y0.length) O2 := ⟨_, rfl⟩
    rw [← hO2, ← hE2] at nq ⊢
    rw [← hY0]
    have sO2 : SlAt (ext h7 lo7 (Y0 ++ lstL 1 i1 O2)) 1 i1 p2 O2 := by rw [hp2]; exact lst_slAt (fun _ => rfl)
    refine seqL_to (l' := [(0, .slice (some ⟨b', o', none⟩) t.length c), (1, .slice r l.length d), (31, .slice p1 O1.length O1.length), (32, I E1), (251, .slice (some ⟨bw, ow, none⟩) w.length e), (252, I w.length), (253, I i), (288, .tuple ⟨[.slice p2 O2.length O2.length, I E2]⟩)]) (by rw [hp2]; (repeat (first | exact sub_nil | apply sub_cons rfl))) ext_base (by simp) ?_
    obtain ⟨h8, hh8⟩ : ∃ h8, h8 = ext h7 lo7 (Y0 ++ lstL 1 i1 O2) := ⟨_, rfl⟩
    have e78 : Ext h7 h8 := by rw [hh8]; exact ext_Ext hc7
    have hc8 : Closed h8 := by rw [hh8]; exact ext_closed hc7
    rw [← hh8] at sO2 ⊢
    clear hh8 hp2 hY0 c3 hO2 hE2
    have sO1 := sO1.ext e78
    have e48 := e47.trans e78
    refine seq_anyLo fun lo8 => ?_
    have ih8 := fun lo L => ih (i + 1) h8 lo L hc8 e48 (by omega) (by omega) trivial
    clear ih
    rcases nq with e4 | ⟨e0, s, s', es, e0', es', hle⟩
    · rw [e4]
      apply seq_plain; exact do_move rfl; exact rfl
      iterate 2 (apply seq_plain; exact do_extract rfl rfl; exact rfl)
      iterate 2 (apply seq_plain; exact do_assign rfl; exact rfl)
      apply seq_nil
      apply ct_seq
      apply ct_draw (by assumption); decide +kernel
      apply sd_plain (hfree := rfl); intro _; exact do_move rfl; exact rfl
      apply sd_plain (hfree := rfl); intro _; exact do_binInt rfl rfl rfl trivial; exact rfl
      apply sd_plain (hfree := rfl); intro _; exact do_move rfl; exact rfl
      apply sd_guard (hfree := rfl) (hg := rfl) (hl := rfl); intro _; exact do_move rfl; exact rfl
      apply sd_guard (hfree := rfl) (hg := rfl) (hl := rfl); intro _; exact do_binInt rfl rfl rfl trivial; exact rfl
      apply sd_plain (hfree := rfl); intro _; exact do_pick_t rfl rfl; exact rfl
      apply sd_plain (hfree := rfl); intro _; exact do_move rfl; exact rfl
      apply sd_guard (hfree := rfl) (hg := rfl) (hl := rfl); intro _; exact do_move rfl; exact rfl
      apply sd_guard (hfree := rfl) (hg := rfl) (hl := rfl); intro _; exact do_binInt rfl rfl rfl trivial; exact rfl
      apply sd_guard (hfree := rfl) (hg := rfl) (hl := rfl); intro _; exact do_move rfl; exact rfl
      iterate 3 (apply sd_passed (hg := rfl) (hl := rfl) (hb := rfl); exact rfl)
      iterate 3 (apply sd_passedU (hg := rfl) (hl := rfl); exact rfl)
      iterate 2 (apply sd_passed (hg := rfl) (hl := rfl) (hb := rfl); exact rfl)
      iterate 3 (apply sd_passedU (hg := rfl) (hl := rfl); exact rfl)
      iterate 2 (apply sd_passed (hg := rfl) (hl := rfl) (hb := rfl); exact rfl)
      iterate 7 (apply sd_passedU (hg := rfl) (hl := rfl); exact rfl)
      apply sd_passed (hg := rfl) (hl := rfl) (hb := rfl); exact rfl
      apply sd_guard (hfree := rfl) (hg := rfl) (hl := rfl); intro _; exact do_pick_f rfl rfl; exact rfl
      apply sd_plain (hfree := rfl); intro _; exact do_pick_f rfl rfl; exact rfl
      apply sd_nil
      refine ct_cond_f rfl rfl ?_
      apply ct_skip
      apply ct_region
      apply seq_plain; exact do_succ rfl (by omega); exact rfl
      apply seq_plain; exact do_move rfl; exact rfl
      apply seq_nil
      exact lt_sub (by repeat (first | exact sub_nil | apply sub_cons rfl)) (ih8 _ _)
    · have hl1 : O1.length = 1 := by rw [es]; rfl
      have hl2 : O2.length = 1 := by rw [es']; rfl
      have y1 : decide (O2[0]'(by omega) > O1[0]'(by omega)) = false := by
        simp only [es, es', List.getElem_cons_zero]
        exact decide_eq_false (by omega)
      rw [e0, e0', hl1, hl2]
      obtain ⟨b6, o6, cs6, z6, st6, ro6, rfl, hg6, hw6⟩ := sO1.out (by intro e; rw [e] at hl1; simp at hl1)
      obtain ⟨b7, o7, cs7, z7, st7, ro7, rfl, hg7, hw7⟩ := sO2.out (by intro e; rw [e] at hl2; simp at hl2)
      clear es es'
      apply seq_plain; exact do_move rfl; exact rfl
      iterate 2 (apply seq_plain; exact do_extract rfl rfl; exact rfl)
      iterate 2 (apply seq_plain; exact do_assign rfl; exact rfl)
      apply seq_nil
      apply ct_seq
      apply ct_draw (by assumption); decide +kernel
      apply sd_plain (hfree := rfl); intro _; exact do_move rfl; exact rfl
      apply sd_plain (hfree := rfl); intro _; exact do_binInt rfl rfl rfl trivial; exact rfl
      apply sd_plain (hfree := rfl); intro _; exact do_move rfl; exact rfl
      iterate 2 (apply sd_passed (hg := rfl) (hl := rfl) (hb := rfl); exact rfl)
      apply sd_plain (hfree := rfl); intro _; exact do_pick_f rfl rfl; exact rfl
      apply sd_plain (hfree := rfl); intro _; exact do_move rfl; exact rfl
      apply sd_guard (hfree := rfl) (hg := rfl) (hl := rfl); intro _; exact do_move rfl; exact rfl
      apply sd_guard (hfree := rfl) (hg := rfl) (hl := rfl); intro _; exact do_binInt rfl rfl rfl trivial; exact rfl
      iterate 2 (apply sd_guard (hfree := rfl) (hg := rfl) (hl := rfl); intro _; exact do_move rfl; exact rfl)
      apply sd_guard (hfree := rfl) (hg := rfl) (hl := rfl); intro _; exact do_binInt rfl rfl rfl trivial; exact rfl
      iterate 2 (apply sd_guard (hfree := rfl) (hg := rfl) (hl := rfl); intro _; exact do_move rfl; exact rfl)
      apply sd_guardL (hfree := rfl) (hg := rfl) (hl := rfl); exact do_lenS rfl rfl rfl; exact rfl
      apply sd_guard (hfree := rfl) (hg := rfl) (hl := rfl); intro _; exact do_binInt rfl rfl rfl trivial; exact rfl
      apply sd_guard (hfree := rfl) (hg := rfl) (hl := rfl); intro _; exact do_pick_f rfl rfl; exact rfl
      iterate 2 (apply sd_guard (hfree := rfl) (hg := rfl) (hl := rfl); intro _; exact do_move rfl; exact rfl)
      apply sd_guardL (hfree := rfl) (hg := rfl) (hl := rfl); exact do_lenS rfl rfl rfl; exact rfl
      apply sd_guard (hfree := rfl) (hg := rfl) (hl := rfl); intro _; exact do_binInt rfl rfl rfl trivial; exact rfl
      apply sd_guard (hfree := rfl) (hg := rfl) (hl := rfl); intro _; exact do_pick_f rfl rfl; exact rfl
      iterate 2 (apply sd_guard (hfree := rfl) (hg := rfl) (hl := rfl); intro _; exact do_move rfl; exact rfl)
      apply sd_guard (hfree := rfl) (hg := rfl) (hl := rfl); intro _; exact do_indexAddrS rfl rfl rfl (by exact rfl); exact rfl
      apply sd_guardL (hfree := rfl) (hg := rfl) (hl := rfl); exact do_load rfl (by exact ext_get_old (by assumption) (by assumption)) rfl (by exact pt_sl0 (by assumption) (by omega)); exact rfl
      apply sd_guard (hfree := rfl) (hg := rfl) (hl := rfl); intro _; exact do_move rfl; exact rfl
      apply sd_guard (hfree := rfl) (hg := rfl) (hl := rfl); intro _; exact do_indexAddrS rfl rfl rfl (by exact rfl); exact rfl
      apply sd_guardL (hfree := rfl) (hg := rfl) (hl := rfl); exact do_load rfl (by exact ext_get_old (by assumption) (by assumption)) rfl (by exact pt_sl0 (by assumption) (by omega)); exact rfl
      apply sd_guard (hfree := rfl) (hg := rfl) (hl := rfl); intro _; exact do_binInt rfl rfl rfl trivial; exact rfl
      apply sd_guard (hfree := rfl) (hg := rfl) (hl := rfl); intro _; exact do_pick_f rfl rfl; exact rfl
      apply sd_guard (hfree := rfl) (hg := rfl) (hl := rfl); intro _; exact do_pick_t rfl rfl; exact rfl
      apply sd_plain (hfree := rfl); intro _; exact do_pick_f rfl rfl; exact rfl
      apply sd_nil
      refine ct_cond rfl (fun u => ?_) (fun u => ?_)
      · exact absurd (y1.symm.trans u) (by decide)
      apply ct_skip
      apply ct_region
      apply seq_plain; exact do_succ rfl (by omega); exact rfl
      apply seq_plain; exact do_move rfl; exact rfl
      apply seq_nil
      exact lt_sub (by repeat (first | exact sub_nil | apply sub_cons rfl)) (ih8 _ _)
  have h1 : i = w.length := by simp at h1; omega
  subst h1
  apply ct_exit
  apply exit_eq; exact rfl
  apply ct_seq
  apply ct_region
  apply seq_call (ht := rfl); exact haw _ (hE.trans (ext_Ext hc4)); exact rfl
  apply seq_plain; exact do_assign rfl; exact rfl
  apply seq_nil
  apply ct_ret
  exact fin_flatB hc hc4 hE rfl rfl ⟨rfl, rfl⟩
end Go.Proofs.YtfjihdlpohljbaaGreat
