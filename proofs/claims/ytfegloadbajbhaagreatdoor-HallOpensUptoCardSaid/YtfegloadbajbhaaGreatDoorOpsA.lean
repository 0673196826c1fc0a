/- HallOpens: the law's own walk. -/
import Derived.Test.YtfegloadbajbhaaGreatDoorOpsL
noncomputable section
namespace Go.Proofs.YtfegloadbajbhaaGreatDoor
open Go Go.Den
set_option maxRecDepth 100000
theorem mkBools61 {P : Program} [PC P] {l : EL} {h : AHeap} {t : TypeId} {a : Operand} {n : Nat} {e : TypeId} (ha : ev l a = some (I n)) (hn : n ≤ 1000) (hs : selOf P t = some (1, false)) (he : (tyOf P t).map (·.und) = some (.slice e)) (hz : zerOf P e = some [.bool false]) (hby : (tyOf P e).map (·.bytes) = some 1) : Does P l (.makeSlice t a a) h (.slice (some ⟨h.fresh, 0, none⟩) n n) (h.add (.cells ((List.replicate n false).map Value.bool) 1 false false)) := by
  rw [← repl_map (g := Value.bool)]
  exact do_makeSlice ha ha hs he hz hby (Nat.le_refl _) (by omega) (by omega)
theorem seq_gnewS {P : Program} [PC P] {rd : Option Nat} {nt : Nat} {ops : Array Oper} {l : EL} {ds : List Nat} {K : St → Prop} {i : Nat} {r : List Oper} {ty : TypeId} {pos : String} {af : Array Edge} {d : Nat} {op : Op} {H : AHeap} {lo n c j t : Nat} {w : Bool} {L : List (Option ABlk)} {x : ABlk} (hd : gdst ops j = some t) (hl : lk l t = some (.bool w)) (hop : Does P l op (ext H lo L) (.slice (some ⟨(ext H lo L).fresh, 0, none⟩) n c) ((ext H lo L).add x)) (hdn : Nat.blt d nt = true)
    (hk : SeqL P rd nt ops r (i + 1) ⟨ofA ((d, .slice (some ⟨nb H L.length, 0, none⟩) n c) :: l), ds, ext H lo (L ++ [some x])⟩ K) : SeqL P rd nt ops (⟨some d, op, ty, pos, af, some (j, w)⟩ :: r) i ⟨ofA l, ds, ext H lo L⟩ K := by
  rw [ext_fresh, ext_add] at hop
  exact seq_guard hd hl hop hdn hk
set_option maxHeartbeats 16000000 in
theorem opens_w {H : AHeap} {q r : Option Addr} {c d : Nat} {t : List Tb} {l : List Bk} {b : Bk} (haw : ∀ h, Ext H h → Ret Tryz.prog 17 [] h (.bool true) h) (hs : SlAt H 2 tb q t) (hlow : LowS q c t.length) (hn : t.length ≤ 1048576) (hr : SlAt H 4 bk r l) (hlow2 : LowS r d l.length) (hq : OldS H r) (hbl : BlkS H r) (hd : r = none → d = 0) (hm : l.length ≤ 1048576) :
    Ret Tryz.prog 11 [.slice q t.length c, .slice r l.length d, .agg ⟨bk b⟩] H (.bool true) H := by
  refine fn_start Tryz.func11 rfl rfl rfl fun hc => ?_
  have c1 := fun L => own_c (c := c) (d := d) (hs.ext (ext_Ext hc (lo := H.fresh) (L := L))) (by omega) (hr.ext (ext_Ext hc (lo := H.fresh) (L := L))) (by omega)
  simp only [lstH_ext, ext_fresh] at c1
  apply ct_seq
  apply ct_region
  apply seq_newP; exact do_box rfl rfl rfl; exact rfl
  apply seq_plain; exact do_assign rfl; exact rfl
  apply seq_nil
  apply ct_seq
  apply ct_region
  apply seq_plain; exact do_move rfl; exact rfl
  apply seq_plain; exact do_move rfl; exact rfl
  refine seq_gen1 (j := 0) (x := .cells (bk b) 0 false false) rfl (fun Lb hLb => ?_)
  apply seq_call (ht := rfl); exact c1 Lb; exact rfl
  apply seq_plain; exact do_move rfl; exact rfl
  apply seq_plain; exact do_extract rfl rfl; exact rfl
  apply seq_plain; exact do_extract rfl rfl; exact rfl
  apply seq_plain; exact do_assign rfl; exact rfl
  apply seq_plain; exact do_assign rfl; exact rfl
  apply seq_nil
  apply ct_seq
  apply ct_seq
  apply ct_region
  obtain ⟨p, hp⟩ : ∃ p, p = lstP (nb H Lb.length) t := ⟨_, rfl⟩
  obtain ⟨u, hu⟩ : ∃ u, u = lstP (nb H (Lb ++ lstL 2 tb t).length) l := ⟨_, rfl⟩
  obtain ⟨bx, hbx⟩ : ∃ bx, bx = nb H 0 := ⟨_, rfl⟩
  have s1 : SlAt (ext H H.fresh (Lb ++ lstL 2 tb t ++ lstL 4 bk l)) 4 bk u l := by rw [hu]; exact lst_slAt bk_len
  have hub : BlkS (ext H H.fresh (Lb ++ lstL 2 tb t ++ lstL 4 bk l)) u := by rw [hu]; exact blk_lst
  have s2 : SlAt (ext H H.fresh (Lb ++ lstL 2 tb t ++ lstL 4 bk l)) 2 tb p t := by
    have := lst_slAt (H := H) (lo := H.fresh) (L := Lb) (m := 2) (f := tb) (l := t) tb_len
    rw [hp]
    exact this.ext (ext_more hc)
  have hgx : (ext H H.fresh (Lb ++ lstL 2 tb t ++ lstL 4 bk l)).get bx = some (.cells (bk b) 0 false false) := by rw [hbx]; exact ext_get_new (getApp (getApp hLb))
  refine seqL_to (l' := [(0, .slice q t.length c), (1, .slice r l.length d), (5, .pointer (some ⟨bx, 0, none⟩)), (6, .bool false), (7, .slice p t.length t.length), (8, .slice u l.length l.length)]) (by rw [hp, hu, hbx]; repeat (first | exact sub_nil | apply sub_cons rfl)) ext_base (by simp) ?_
  obtain ⟨h, hh⟩ : ∃ h, h = ext H H.fresh (Lb ++ lstL 2 tb t ++ lstL 4 bk l) := ⟨_, rfl⟩
  have hc' : Closed h := by rw [hh]; exact ext_closed hc
  have hE : Ext H h := by rw [hh]; exact ext_Ext hc
  have hq' : OldS h r := by rw [hh]; exact hq.ext
  have hbl' := hbl.ext hE
  rw [← hh] at s1 s2 hub hgx ⊢
  clear hh hp hu c1 hbx hLb Lb
  have aw := fun lo L => haw _ (hE.trans (ext_Ext (lo := lo) (L := L) hc'))
  have sh := fun lo L => short_c (d := l.length) (c := t.length) (e := 0) (s2.ext (ext_Ext (lo := lo) (L := L) hc')) (by omega) (s1.ext (ext_Ext (lo := lo) (L := L) hc')) (by omega) (SlAt.nil (p := none)) (by simp)
  apply seq_call (ht := rfl); exact aw _ _; exact rfl
  apply seq_plain; exact do_unOp rfl rfl; exact rfl
  apply seq_plain; exact do_move rfl; exact rfl
  apply seq_guard (hd := rfl) (hl := rfl); exact do_move rfl; exact rfl
  apply seq_guard (hd := rfl) (hl := rfl); exact do_lenS rfl rfl rfl; exact rfl
  apply seq_guard (hd := rfl) (hl := rfl); exact do_binInt rfl rfl rfl trivial; exact rfl
  apply seq_plain; exact do_pick_f rfl rfl; exact rfl
  apply seq_plain; exact do_move rfl; exact rfl
  refine seq_JX (ds := []) (α := Bool × List (Option ABlk)) (fun a => [(0, .slice q t.length c), (1, .slice r l.length d), (5, .pointer (some ⟨bx, 0, none⟩)), (6, .bool false), (7, .slice p t.length t.length), (8, .slice u l.length l.length), (82, .bool a.1)]) (fun a => ext h (min H.fresh H.fresh) a.2) (fun a => a.1 = false → OpsIn t l b) ?_ (fun a ha => ?_)
  · have hno : ∀ {x : List (Option ABlk)}, ((true, x) : Bool × List (Option ABlk)).1 = false → OpsIn t l b := fun h => by cases h
    refine seq_gsplit rfl rfl (fun u1 => ?_) (fun u1 => ?_)
    · apply seq_passed (hd := rfl) (hl := rfl) (hb := rfl); exact rfl
      apply seq_passed (hd := rfl) (hl := rfl) (hb := rfl); exact rfl
      apply seq_passed (hd := rfl) (hl := rfl) (hb := rfl); exact rfl
      apply seq_plain; exact do_pick_t rfl rfl; exact rfl
      apply seq_plain; exact do_move rfl; exact rfl
      apply seq_passed (hd := rfl) (hl := rfl) (hb := rfl); exact rfl
      apply seq_passed (hd := rfl) (hl := rfl) (hb := rfl); exact rfl
      apply seq_passed (hd := rfl) (hl := rfl) (hb := rfl); exact rfl
      apply seq_passed (hd := rfl) (hl := rfl) (hb := rfl); exact rfl
      apply seq_plain; exact do_pick_t rfl rfl; exact rfl
      apply seq_plain; exact do_move rfl; exact rfl
      apply seq_passed (hd := rfl) (hl := rfl) (hb := rfl); exact rfl
      apply seq_passed (hd := rfl) (hl := rfl) (hb := rfl); exact rfl
      apply seq_passed (hd := rfl) (hl := rfl) (hb := rfl); exact rfl
      apply seq_passed (hd := rfl) (hl := rfl) (hb := rfl); exact rfl
      apply seq_plain; exact do_pick_t rfl rfl; exact rfl
      apply seq_plain; exact do_move rfl; exact rfl
      apply seq_passed (hd := rfl) (hl := rfl) (hb := rfl); exact rfl
      apply seq_passed (hd := rfl) (hl := rfl) (hb := rfl); exact rfl
      apply seq_passed (hd := rfl) (hl := rfl) (hb := rfl); exact rfl
      apply seq_passed (hd := rfl) (hl := rfl) (hb := rfl); exact rfl
      apply seq_plain; exact do_pick_t rfl rfl; exact rfl
      apply seq_plain; exact do_move rfl; exact rfl
      apply seq_passed (hd := rfl) (hl := rfl) (hb := rfl); exact rfl
      apply seq_passed (hd := rfl) (hl := rfl) (hb := rfl); exact rfl
      apply seq_passed (hd := rfl) (hl := rfl) (hb := rfl); exact rfl
      apply seq_passed (hd := rfl) (hl := rfl) (hb := rfl); exact rfl
      apply seq_plain; exact do_pick_t rfl rfl; exact rfl
      apply seq_plain; exact do_move rfl; exact rfl
      apply seq_passed (hd := rfl) (hl := rfl) (hb := rfl); exact rfl
      apply seq_passed (hd := rfl) (hl := rfl) (hb := rfl); exact rfl
      apply seq_passed (hd := rfl) (hl := rfl) (hb := rfl); exact rfl
      apply seq_passed (hd := rfl) (hl := rfl) (hb := rfl); exact rfl
      apply seq_plain; exact do_pick_t rfl rfl; exact rfl
      apply seq_plain; exact do_move rfl; exact rfl
      apply seq_passed (hd := rfl) (hl := rfl) (hb := rfl); exact rfl
      apply seq_passed (hd := rfl) (hl := rfl) (hb := rfl); exact rfl
      apply seq_passed (hd := rfl) (hl := rfl) (hb := rfl); exact rfl
      apply seq_plain; exact do_pick_t rfl rfl; exact rfl
      apply seq_plain; exact do_move rfl; exact rfl
      apply seq_passed (hd := rfl) (hl := rfl) (hb := rfl); exact rfl
      apply seq_passed (hd := rfl) (hl := rfl) (hb := rfl); exact rfl
      apply seq_passed (hd := rfl) (hl := rfl) (hb := rfl); exact rfl
      apply seq_passed (hd := rfl) (hl := rfl) (hb := rfl); exact rfl
      apply seq_passed (hd := rfl) (hl := rfl) (hb := rfl); exact rfl
      apply seq_plain; exact do_pick_t rfl rfl; exact rfl
      apply seq_nil
      exact jx_of (true, _) hno (by repeat (first | exact sub_nil | apply sub_cons rfl)) rfl
    have u1 : t.length ≤ 4 := by
      have u1 : decide ((t.length : Int) > 4) = false := u1
      simp only [decide_eq_false_iff_not] at u1; omega
    apply seq_guard (hd := rfl) (hl := rfl); exact do_move rfl; exact rfl
    apply seq_guard (hd := rfl) (hl := rfl); exact do_lenS rfl rfl rfl; exact rfl
    apply seq_guard (hd := rfl) (hl := rfl); exact do_binInt rfl rfl rfl trivial; exact rfl
    apply seq_plain; exact do_pick_f rfl rfl; exact rfl
    apply seq_plain; exact do_move rfl; exact rfl
    refine seq_gsplit rfl rfl (fun u2 => ?_) (fun u2 => ?_)
    · apply seq_passed (hd := rfl) (hl := rfl) (hb := rfl); exact rfl
      apply seq_passed (hd := rfl) (hl := rfl) (hb := rfl); exact rfl
      apply seq_passed (hd := rfl) (hl := rfl) (hb := rfl); exact rfl
      apply seq_passed (hd := rfl) (hl := rfl) (hb := rfl); exact rfl
      apply seq_plain; exact do_pick_t rfl rfl; exact rfl
      apply seq_plain; exact do_move rfl; exact rfl
      apply seq_passed (hd := rfl) (hl := rfl) (hb := rfl); exact rfl
      apply seq_passed (hd := rfl) (hl := rfl) (hb := rfl); exact rfl
      apply seq_passed (hd := rfl) (hl := rfl) (hb := rfl); exact rfl
      apply seq_passed (hd := rfl) (hl := rfl) (hb := rfl); exact rfl
      apply seq_plain; exact do_pick_t rfl rfl; exact rfl
      apply seq_plain; exact do_move rfl; exact rfl
      apply seq_passed (hd := rfl) (hl := rfl) (hb := rfl); exact rfl
      apply seq_passed (hd := rfl) (hl := rfl) (hb := rfl); exact rfl
      apply seq_passed (hd := rfl) (hl := rfl) (hb := rfl); exact rfl
      apply seq_passed (hd := rfl) (hl := rfl) (hb := rfl); exact rfl
      apply seq_plain; exact do_pick_t rfl rfl; exact rfl
      apply seq_plain; exact do_move rfl; exact rfl
      apply seq_passed (hd := rfl) (hl := rfl) (hb := rfl); exact rfl
      apply seq_passed (hd := rfl) (hl := rfl) (hb := rfl); exact rfl
      apply seq_passed (hd := rfl) (hl := rfl) (hb := rfl); exact rfl
      apply seq_passed (hd := rfl) (hl := rfl) (hb := rfl); exact rfl
      apply seq_plain; exact do_pick_t rfl rfl; exact rfl
      apply seq_plain; exact do_move rfl; exact rfl
      apply seq_passed (hd := rfl) (hl := rfl) (hb := rfl); exact rfl
      apply seq_passed (hd := rfl) (hl := rfl) (hb := rfl); exact rfl
      apply seq_passed (hd := rfl) (hl := rfl) (hb := rfl); exact rfl
      apply seq_passed (hd := rfl) (hl := rfl) (hb := rfl); exact rfl
      apply seq_plain; exact do_pick_t rfl rfl; exact rfl
      apply seq_plain; exact do_move rfl; exact rfl
      apply seq_passed (hd := rfl) (hl := rfl) (hb := rfl); exact rfl
      apply seq_passed (hd := rfl) (hl := rfl) (hb := rfl); exact rfl
      apply seq_passed (hd := rfl) (hl := rfl) (hb := rfl); exact rfl
      apply seq_plain; exact do_pick_t rfl rfl; exact rfl
      apply seq_plain; exact do_move rfl; exact rfl
      apply seq_passed (hd := rfl) (hl := rfl) (hb := rfl); exact rfl
      apply seq_passed (hd := rfl) (hl := rfl) (hb := rfl); exact rfl
      apply seq_passed (hd := rfl) (hl := rfl) (hb := rfl); exact rfl
      apply seq_passed (hd := rfl) (hl := rfl) (hb := rfl); exact rfl
      apply seq_passed (hd := rfl) (hl := rfl) (hb := rfl); exact rfl
      apply seq_plain; exact do_pick_t rfl rfl; exact rfl
      apply seq_nil
      exact jx_of (true, _) hno (by repeat (first | exact sub_nil | apply sub_cons rfl)) rfl
    have u2 : l.length ≤ 8 := by
      have u2 : decide ((l.length : Int) > 8) = false := u2
      simp only [decide_eq_false_iff_not] at u2; omega
    apply seq_guard (hd := rfl) (hl := rfl); exact do_move rfl; exact rfl
    apply seq_guard (hd := rfl) (hl := rfl); exact do_move rfl; exact rfl
    apply seq_gcall (hg := rfl) (hl := rfl) (ht := rfl); exact sh _ _; exact rfl
    apply seq_guard (hd := rfl) (hl := rfl); exact do_unOp rfl rfl; exact rfl
    apply seq_plain; exact do_pick_f rfl rfl; exact rfl
    apply seq_plain; exact do_move rfl; exact rfl
    refine seq_gsplit rfl rfl (fun u3 => ?_) (fun u3 => ?_)
    · apply seq_passed (hd := rfl) (hl := rfl) (hb := rfl); exact rfl
      apply seq_passed (hd := rfl) (hl := rfl) (hb := rfl); exact rfl
      apply seq_passed (hd := rfl) (hl := rfl) (hb := rfl); exact rfl
      apply seq_passed (hd := rfl) (hl := rfl) (hb := rfl); exact rfl
      apply seq_plain; exact do_pick_t rfl rfl; exact rfl
      apply seq_plain; exact do_move rfl; exact rfl
      apply seq_passed (hd := rfl) (hl := rfl) (hb := rfl); exact rfl
      apply seq_passed (hd := rfl) (hl := rfl) (hb := rfl); exact rfl
      apply seq_passed (hd := rfl) (hl := rfl) (hb := rfl); exact rfl
      apply seq_passed (hd := rfl) (hl := rfl) (hb := rfl); exact rfl
      apply seq_plain; exact do_pick_t rfl rfl; exact rfl
      apply seq_plain; exact do_move rfl; exact rfl
      apply seq_passed (hd := rfl) (hl := rfl) (hb := rfl); exact rfl
      apply seq_passed (hd := rfl) (hl := rfl) (hb := rfl); exact rfl
      apply seq_passed (hd := rfl) (hl := rfl) (hb := rfl); exact rfl
      apply seq_passed (hd := rfl) (hl := rfl) (hb := rfl); exact rfl
      apply seq_plain; exact do_pick_t rfl rfl; exact rfl
      apply seq_plain; exact do_move rfl; exact rfl
      apply seq_passed (hd := rfl) (hl := rfl) (hb := rfl); exact rfl
      apply seq_passed (hd := rfl) (hl := rfl) (hb := rfl); exact rfl
      apply seq_passed (hd := rfl) (hl := rfl) (hb := rfl); exact rfl
      apply seq_passed (hd := rfl) (hl := rfl) (hb := rfl); exact rfl
      apply seq_plain; exact do_pick_t rfl rfl; exact rfl
      apply seq_plain; exact do_move rfl; exact rfl
      apply seq_passed (hd := rfl) (hl := rfl) (hb := rfl); exact rfl
      apply seq_passed (hd := rfl) (hl := rfl) (hb := rfl); exact rfl
      apply seq_passed (hd := rfl) (hl := rfl) (hb := rfl); exact rfl
      apply seq_plain; exact do_pick_t rfl rfl; exact rfl
      apply seq_plain; exact do_move rfl; exact rfl
      apply seq_passed (hd := rfl) (hl := rfl) (hb := rfl); exact rfl
      apply seq_passed (hd := rfl) (hl := rfl) (hb := rfl); exact rfl
      apply seq_passed (hd := rfl) (hl := rfl) (hb := rfl); exact rfl
      apply seq_passed (hd := rfl) (hl := rfl) (hb := rfl); exact rfl
      apply seq_passed (hd := rfl) (hl := rfl) (hb := rfl); exact rfl
      apply seq_plain; exact do_pick_t rfl rfl; exact rfl
      apply seq_nil
      exact jx_of (true, _) hno (by repeat (first | exact sub_nil | apply sub_cons rfl)) rfl
    apply seq_guard (hd := rfl) (hl := rfl); exact do_move rfl; exact rfl
    apply seq_guard (hd := rfl) (hl := rfl); exact do_move rfl; exact rfl
    apply seq_gcall (hg := rfl) (hl := rfl) (ht := rfl); exact refCheck_c (s2.ext (ext_Ext hc')) (by omega) (s1.ext (ext_Ext hc')) (by omega); exact rfl
    apply seq_guard (hd := rfl) (hl := rfl); exact do_binInt rfl rfl rfl trivial; exact rfl
    apply seq_plain; exact do_pick_f rfl rfl; exact rfl
    apply seq_plain; exact do_move rfl; exact rfl
    refine seq_gsplit rfl rfl (fun u4 => ?_) (fun u4 => ?_)
    · apply seq_passed (hd := rfl) (hl := rfl) (hb := rfl); exact rfl
      apply seq_passed (hd := rfl) (hl := rfl) (hb := rfl); exact rfl
      apply seq_passed (hd := rfl) (hl := rfl) (hb := rfl); exact rfl
      apply seq_passed (hd := rfl) (hl := rfl) (hb := rfl); exact rfl
      apply seq_plain; exact do_pick_t rfl rfl; exact rfl
      apply seq_plain; exact do_move rfl; exact rfl
      apply seq_passed (hd := rfl) (hl := rfl) (hb := rfl); exact rfl
      apply seq_passed (hd := rfl) (hl := rfl) (hb := rfl); exact rfl
      apply seq_passed (hd := rfl) (hl := rfl) (hb := rfl); exact rfl
      apply seq_passed (hd := rfl) (hl := rfl) (hb := rfl); exact rfl
      apply seq_plain; exact do_pick_t rfl rfl; exact rfl
      apply seq_plain; exact do_move rfl; exact rfl
      apply seq_passed (hd := rfl) (hl := rfl) (hb := rfl); exact rfl
      apply seq_passed (hd := rfl) (hl := rfl) (hb := rfl); exact rfl
      apply seq_passed (hd := rfl) (hl := rfl) (hb := rfl); exact rfl
      apply seq_passed (hd := rfl) (hl := rfl) (hb := rfl); exact rfl
      apply seq_plain; exact do_pick_t rfl rfl; exact rfl
      apply seq_plain; exact do_move rfl; exact rfl
      apply seq_passed (hd := rfl) (hl := rfl) (hb := rfl); exact rfl
      apply seq_passed (hd := rfl) (hl := rfl) (hb := rfl); exact rfl
      apply seq_passed (hd := rfl) (hl := rfl) (hb := rfl); exact rfl
      apply seq_plain; exact do_pick_t rfl rfl; exact rfl
      apply seq_plain; exact do_move rfl; exact rfl
      apply seq_passed (hd := rfl) (hl := rfl) (hb := rfl); exact rfl
      apply seq_passed (hd := rfl) (hl := rfl) (hb := rfl); exact rfl
      apply seq_passed (hd := rfl) (hl := rfl) (hb := rfl); exact rfl
      apply seq_passed (hd := rfl) (hl := rfl) (hb := rfl); exact rfl
      apply seq_passed (hd := rfl) (hl := rfl) (hb := rfl); exact rfl
      apply seq_plain; exact do_pick_t rfl rfl; exact rfl
      apply seq_nil
      exact jx_of (true, _) hno (by repeat (first | exact sub_nil | apply sub_cons rfl)) rfl
    have u4 : bothE t l = 0 := by
      have u4 : (bothE t l != 0) = false := u4
      simpa using u4
    apply seq_guard (hd := rfl) (hl := rfl); exact do_fieldAddr rfl rfl; exact rfl
    apply seq_guard (hd := rfl) (hl := rfl); exact do_load rfl (by exact ext_get_old (by assumption) (by assumption)) rfl (by exact rfl); exact rfl
    apply seq_guard (hd := rfl) (hl := rfl); exact do_lenStr rfl rfl rfl; exact rfl
    apply seq_guard (hd := rfl) (hl := rfl); exact do_binInt rfl rfl rfl trivial; exact rfl
    apply seq_plain; exact do_pick_f rfl rfl; exact rfl
    apply seq_plain; exact do_move rfl; exact rfl
    refine seq_gsplit rfl rfl (fun u5 => ?_) (fun u5 => ?_)
    · apply seq_passed (hd := rfl) (hl := rfl) (hb := rfl); exact rfl
      apply seq_passed (hd := rfl) (hl := rfl) (hb := rfl); exact rfl
      apply seq_passed (hd := rfl) (hl := rfl) (hb := rfl); exact rfl
      apply seq_passed (hd := rfl) (hl := rfl) (hb := rfl); exact rfl
      apply seq_plain; exact do_pick_t rfl rfl; exact rfl
      apply seq_plain; exact do_move rfl; exact rfl
      apply seq_passed (hd := rfl) (hl := rfl) (hb := rfl); exact rfl
      apply seq_passed (hd := rfl) (hl := rfl) (hb := rfl); exact rfl
      apply seq_passed (hd := rfl) (hl := rfl) (hb := rfl); exact rfl
      apply seq_passed (hd := rfl) (hl := rfl) (hb := rfl); exact rfl
      apply seq_plain; exact do_pick_t rfl rfl; exact rfl
      apply seq_plain; exact do_move rfl; exact rfl
      apply seq_passed (hd := rfl) (hl := rfl) (hb := rfl); exact rfl
      apply seq_passed (hd := rfl) (hl := rfl) (hb := rfl); exact rfl
      apply seq_passed (hd := rfl) (hl := rfl) (hb := rfl); exact rfl
      apply seq_plain; exact do_pick_t rfl rfl; exact rfl
      apply seq_plain; exact do_move rfl; exact rfl
      apply seq_passed (hd := rfl) (hl := rfl) (hb := rfl); exact rfl
      apply seq_passed (hd := rfl) (hl := rfl) (hb := rfl); exact rfl
      apply seq_passed (hd := rfl) (hl := rfl) (hb := rfl); exact rfl
      apply seq_passed (hd := rfl) (hl := rfl) (hb := rfl); exact rfl
      apply seq_passed (hd := rfl) (hl := rfl) (hb := rfl); exact rfl
      apply seq_plain; exact do_pick_t rfl rfl; exact rfl
      apply seq_nil
      exact jx_of (true, _) hno (by repeat (first | exact sub_nil | apply sub_cons rfl)) rfl
    apply seq_guard (hd := rfl) (hl := rfl); exact do_fieldAddr rfl rfl; exact rfl
    apply seq_guard (hd := rfl) (hl := rfl); exact do_load rfl (by exact ext_get_old (by assumption) (by assumption)) rfl (by exact rfl); exact rfl
    apply seq_guard (hd := rfl) (hl := rfl); exact do_lenStr rfl rfl rfl; exact rfl
    apply seq_guard (hd := rfl) (hl := rfl); exact do_binInt rfl rfl rfl trivial; exact rfl
    apply seq_plain; exact do_pick_f rfl rfl; exact rfl
    apply seq_plain; exact do_move rfl; exact rfl
    refine seq_gsplit rfl rfl (fun u6 => ?_) (fun u6 => ?_)
    · apply seq_passed (hd := rfl) (hl := rfl) (hb := rfl); exact rfl
      apply seq_passed (hd := rfl) (hl := rfl) (hb := rfl); exact rfl
      apply seq_passed (hd := rfl) (hl := rfl) (hb := rfl); exact rfl
      apply seq_passed (hd := rfl) (hl := rfl) (hb := rfl); exact rfl
      apply seq_plain; exact do_pick_t rfl rfl; exact rfl
      apply seq_plain; exact do_move rfl; exact rfl
      apply seq_passed (hd := rfl) (hl := rfl) (hb := rfl); exact rfl
      apply seq_passed (hd := rfl) (hl := rfl) (hb := rfl); exact rfl
      apply seq_passed (hd := rfl) (hl := rfl) (hb := rfl); exact rfl
      apply seq_plain; exact do_pick_t rfl rfl; exact rfl
      apply seq_plain; exact do_move rfl; exact rfl
      apply seq_passed (hd := rfl) (hl := rfl) (hb := rfl); exact rfl
      apply seq_passed (hd := rfl) (hl := rfl) (hb := rfl); exact rfl
      apply seq_passed (hd := rfl) (hl := rfl) (hb := rfl); exact rfl
      apply seq_passed (hd := rfl) (hl := rfl) (hb := rfl); exact rfl
      apply seq_passed (hd := rfl) (hl := rfl) (hb := rfl); exact rfl
      apply seq_plain; exact do_pick_t rfl rfl; exact rfl
      apply seq_nil
      exact jx_of (true, _) hno (by repeat (first | exact sub_nil | apply sub_cons rfl)) rfl
    apply seq_guard (hd := rfl) (hl := rfl); exact do_load rfl (by exact ext_get_old (by assumption) (by assumption)) rfl (by exact rfl); exact rfl
    refine seq_gnewS rfl rfl (do_buildSlice rfl rfl rfl rfl rfl rfl rfl) rfl ?_
    apply seq_gcall (hg := rfl) (hl := rfl) (ht := rfl); exact refBookings_c (l := [b]) (slAt_flat bk_len (ext_get_new rfl)) (by simp); exact rfl
    apply seq_guard (hd := rfl) (hl := rfl); exact do_binInt rfl rfl rfl trivial; exact rfl
    apply seq_plain; exact do_pick_f rfl rfl; exact rfl
    apply seq_plain; exact do_move rfl; exact rfl
    refine seq_gsplit rfl rfl (fun u7 => ?_) (fun u7 => ?_)
    · apply seq_passed (hd := rfl) (hl := rfl) (hb := rfl); exact rfl
      apply seq_passed (hd := rfl) (hl := rfl) (hb := rfl); exact rfl
      apply seq_passed (hd := rfl) (hl := rfl) (hb := rfl); exact rfl
      apply seq_plain; exact do_pick_t rfl rfl; exact rfl
      apply seq_plain; exact do_move rfl; exact rfl
      apply seq_passed (hd := rfl) (hl := rfl) (hb := rfl); exact rfl
      apply seq_passed (hd := rfl) (hl := rfl) (hb := rfl); exact rfl
      apply seq_passed (hd := rfl) (hl := rfl) (hb := rfl); exact rfl
      apply seq_passed (hd := rfl) (hl := rfl) (hb := rfl); exact rfl
      apply seq_passed (hd := rfl) (hl := rfl) (hb := rfl); exact rfl
      apply seq_plain; exact do_pick_t rfl rfl; exact rfl
      apply seq_nil
      exact jx_of (true, _) hno (by repeat (first | exact sub_nil | apply sub_cons rfl)) rfl
    have u7 : booksE [b] = 0 := by
      have u7 : (booksE [b] != 0) = false := u7
      simpa using u7
    apply seq_guard (hd := rfl) (hl := rfl); exact do_fieldAddr rfl rfl; exact rfl
    apply seq_guard (hd := rfl) (hl := rfl); exact do_load rfl (by exact ext_get_old (by assumption) (by assumption)) rfl (by exact rfl); exact rfl
    apply seq_guard (hd := rfl) (hl := rfl); exact do_binInt rfl rfl rfl trivial; exact rfl
    apply seq_plain; exact do_pick_f rfl rfl; exact rfl
    apply seq_plain; exact do_move rfl; exact rfl
    refine seq_gsplit rfl rfl (fun u8 => ?_) (fun u8 => ?_)
    · apply seq_passed (hd := rfl) (hl := rfl) (hb := rfl); exact rfl
      apply seq_passed (hd := rfl) (hl := rfl) (hb := rfl); exact rfl
      apply seq_passed (hd := rfl) (hl := rfl) (hb := rfl); exact rfl
      apply seq_passed (hd := rfl) (hl := rfl) (hb := rfl); exact rfl
      apply seq_passed (hd := rfl) (hl := rfl) (hb := rfl); exact rfl
      apply seq_plain; exact do_pick_t rfl rfl; exact rfl
      apply seq_nil
      exact jx_of (true, _) hno (by repeat (first | exact sub_nil | apply sub_cons rfl)) rfl
    have u8 : b.to ≤ 60 := by
      have u8 : decide (b.to > 60) = false := u8
      simp only [decide_eq_false_iff_not] at u8; omega
    apply seq_guard (hd := rfl) (hl := rfl); exact do_move rfl; exact rfl
    apply seq_guard (hd := rfl) (hl := rfl); exact do_fieldAddr rfl rfl; exact rfl
    apply seq_guard (hd := rfl) (hl := rfl); exact do_load rfl (by exact ext_get_old (by assumption) (by assumption)) rfl (by exact rfl); exact rfl
    apply seq_gcall (hg := rfl) (hl := rfl) (ht := rfl); exact refTables1_c (s2.ext (ext_Ext hc')) (by omega); exact rfl
    apply seq_guard (hd := rfl) (hl := rfl); exact do_binInt rfl rfl rfl trivial; exact rfl
    apply seq_plain; exact do_pick_f rfl rfl; exact rfl
    apply seq_nil
    exact jx_of ((cntK t b.kind : Int) == 0, _) (fun u9 => ⟨u1, u2, u4, u7, u8, by simp only [beq_eq_false_iff_ne, ne_eq] at u9; omega⟩) (by repeat (first | exact sub_nil | apply sub_cons rfl)) rfl
  obtain ⟨T, L1⟩ := a
  simp only at ha ⊢
  refine ct_cond rfl (fun u0 => ?_) (fun u0 => ?_)
  · apply ct_seq
    apply ct_region
    apply seq_call (ht := rfl); exact aw _ _; exact rfl
    apply seq_plain; exact do_assign rfl; exact rfl
    apply seq_nil
    apply ct_ret
    exact fin_flatB hc hc' hE rfl rfl ⟨rfl, rfl⟩
  have hin := ha u0
  clear ha sh aw
  have m1 := hin.tl
  have m2 := hin.ll
  have hse := hs.ext hE
  have hre := hr.ext hE
  have c2 := fun lo L => Openings_c (c := c) (d := d) (k := b.kind) (hse.ext (ext_Ext hc' (lo := lo) (L := L))) hlow (by omega) (hre.ext (ext_Ext hc')) hlow2 hq'.ext (by omega)
  simp only [lstH_ext, ext_fresh] at c2
  apply ct_skip
  apply ct_seq
  apply ct_region
  apply seq_plain; exact do_move rfl; exact rfl
  apply seq_plain; exact do_move rfl; exact rfl
  apply seq_plain; exact do_fieldAddr rfl rfl; exact rfl
  apply seq_plain; exact do_load rfl (by exact ext_get_old (by assumption) (by assumption)) rfl (by exact rfl); exact rfl
  apply seq_call (ht := rfl); exact c2 _ _; exact rfl
  obtain ⟨o, ho⟩ : ∃ o, o = opnO t l b.kind := ⟨_, rfl⟩
  obtain ⟨w, hw⟩ : ∃ w, w = lstP (nb h L1.length) o := ⟨_, rfl⟩
  rw [← ho]
  have hol : o.length ≤ 99999 := by rw [ho]; exact opnO_len
  have s3 : SlAt (ext h (min H.fresh H.fresh) (L1 ++ lstL 2 p2 o)) 2 p2 w o := by rw [hw]; exact lst_slAt p2_len
  refine seqL_to (l' := [(0, .slice q t.length c), (1, .slice r l.length d), (5, .pointer (some ⟨bx, 0, none⟩)), (6, .bool false), (7, .slice p t.length t.length), (8, .slice u l.length l.length), (89, .tuple ⟨[.slice w o.length o.length, I (opnX t l b.kind)]⟩)]) (by rw [hw]; repeat (first | exact sub_nil | apply sub_cons rfl)) ext_base (by simp) ?_
  obtain ⟨h2, hh2⟩ : ∃ h2, h2 = ext h (min H.fresh H.fresh) (L1 ++ lstL 2 p2 o) := ⟨_, rfl⟩
  have hq' : OldS h2 r := by rw [hh2]; exact hq'.ext
  have hse : SlAt h2 2 tb q t := by rw [hh2]; exact hse.ext (ext_Ext hc')
  have hre : SlAt h2 4 bk r l := by rw [hh2]; exact hre.ext (ext_Ext hc')
  have hbl' : BlkS h2 r := by rw [hh2]; exact hbl'.ext (ext_Ext hc')
  have s2 : SlAt h2 2 tb p t := by rw [hh2]; exact s2.ext (ext_Ext hc')
  have hgx : h2.get bx = some (.cells (bk b) 0 false false) := by rw [hh2]; exact ext_get_old hc' hgx
  have hE : Ext H h2 := by rw [hh2]; exact hE.trans (ext_Ext hc')
  have hc' : Closed h2 := by rw [hh2]; exact ext_closed hc'
  rw [← hh2] at s3 ⊢
  refine seq_anyLo fun lo => ?_
  clear hh2 c2 hw
  have hsE : ∀ lo L, SlAt (ext h2 lo L) 2 tb p t := fun lo L => s2.ext (ext_Ext hc')
  apply seq_plain; exact do_move rfl; exact rfl
  apply seq_plain; exact do_extract rfl rfl; exact rfl
  apply seq_plain; exact do_extract rfl rfl; exact rfl
  apply seq_plain; exact do_assign rfl; exact rfl
  apply seq_plain; exact do_assign rfl; exact rfl
  apply seq_nil
  apply ct_seq
  apply ct_region
  apply seq_plain; exact do_move rfl; exact rfl
  apply seq_plain; exact do_move rfl; exact rfl
  apply seq_plain; exact do_load rfl (by exact ext_get_old (by assumption) (by assumption)) rfl (by exact rfl); exact rfl
  apply seq_call (ht := rfl); exact Fits_c (hse.ext (ext_Ext hc')) hlow (by omega) (hre.ext (ext_Ext hc')) hlow2 hq'.ext (hbl'.ext (ext_Ext hc')) hd (by omega); exact rfl
  apply seq_plain; exact do_move rfl; exact rfl
  apply seq_plain; exact do_extract rfl rfl; exact rfl
  apply seq_plain; exact do_extract rfl rfl; exact rfl
  apply seq_plain; exact do_assign rfl; exact rfl
  apply seq_plain; exact do_assign rfl; exact rfl
  apply seq_nil
  apply ct_seq
  apply ct_seq
  apply ct_region
  apply seq_plain; exact do_move rfl; exact rfl
  apply seq_plain; exact do_binInt rfl rfl rfl trivial; exact rfl
  apply seq_nil
  refine ct_cond rfl (fun v0 => ?_) (fun v0 => ?_)
  · have v0 : opnX t l b.kind ≠ 0 := by simpa using v0
    obtain ⟨e1, e2⟩ := hin.bad v0
    rw [e1, e2, hin.fitsE]
    apply ct_seq
    apply ct_region
    apply seq_plain; exact do_move rfl; exact rfl
    apply seq_plain; exact do_binInt rfl rfl rfl trivial; exact rfl
    apply seq_plain; exact do_move rfl; exact rfl
    apply seq_guard (hd := rfl) (hl := rfl); exact do_move rfl; exact rfl
    apply seq_guard (hd := rfl) (hl := rfl); exact do_binInt rfl rfl rfl trivial; exact rfl
    apply seq_plain; exact do_pick_t rfl rfl; exact rfl
    apply seq_plain; exact do_move rfl; exact rfl
    apply seq_guard (hd := rfl) (hl := rfl); exact do_move rfl; exact rfl
    apply seq_guard (hd := rfl) (hl := rfl); exact do_unOp rfl rfl; exact rfl
    apply seq_plain; exact do_pick_t rfl rfl; exact rfl
    apply seq_plain; exact do_assign rfl; exact rfl
    apply seq_nil
    apply ct_ret
    exact fin_flatB hc hc' hE rfl rfl ⟨rfl, rfl⟩
  have v0 : opnX t l b.kind = 0 := by simpa using v0
  obtain ⟨hO, hfit⟩ := hin.good v0
  rw [← ho] at hO
  rw [hin.fitsE]
  have hbk := hin.bk
  have h60 := hin.to_
  clear ho v0 hse hq' hbl' hin
  apply ct_skip
  apply ct_seq
  apply ct_region
  apply seq_newS; exact mkBools61 rfl (by decide) rfl rfl rfl rfl; exact rfl
  apply seq_plain; exact do_assign rfl; exact rfl
  apply seq_nil
  apply ct_seq
  apply ct_region
  apply seq_plain; exact do_assign rfl; exact rfl
  apply seq_nil
  apply ct_seq
  apply ct_seq
  apply ct_region
  apply seq_plain; exact do_move rfl; exact rfl
  apply seq_plain; exact do_lenS rfl rfl rfl; exact rfl
  apply seq_plain; exact do_move rfl; exact rfl
  apply seq_nil
  apply ct_block
  apply ct_loop
  refine lt_meas (α := Nat × List Bool × Int × List (Option ABlk)) (fun a => [(1, .slice r l.length d), (5, .pointer (some ⟨bx, 0, none⟩)), (7, .slice p t.length t.length), (11, .bool (fitsV t l b)), (12, I 0), (13, .slice (some ⟨nb h2 0, 0, none⟩) 61 61), (14, I a.2.2.1), (112, .slice w o.length o.length), (113, I o.length), (114, I a.1)]) (fun a => ext h2 lo a.2.2.2) (fun a => a.1 ≤ o.length ∧ FrI a.2.1 (o.take a.1) ∧ (∀ h : a.1 < o.length, a.2.2.1 < o[a.1].1) ∧ a.2.2.2[0]? = some (some (.cells (a.2.1.map Value.bool) 1 false false))) (fun a => o.length - a.1) (fun a ha ih => ?_) (0, List.replicate 61 false, -1, _) ?_ (by repeat (first | exact sub_nil | apply sub_cons rfl)) (.refl _)
  rotate_left
  · exact ⟨Nat.zero_le _, .zero, fun h => (show (-1 : Int) < o[0].1 by have := (hO.lo o[0] (List.getElem_mem h)).1; omega), rfl⟩
  obtain ⟨i, F, last, L⟩ := a
  obtain ⟨hi, hF, hla, hL⟩ := ha
  simp only at hi hF hla hL ih ⊢
  have ih' := fun i' F' la' L' a1 a2 a3 a4 a5 => ih (i', F', la', L') a1 ⟨a2, a3, a4, a5⟩
  simp only at ih'
  clear ih
  apply ct_seq
  apply ct_region
  apply seq_plain; exact do_binInt rfl rfl rfl trivial; exact rfl
  apply seq_nil
  apply ct_seq
  refine ct_cond rfl (fun h1 => ?_) (fun h1 => ?_)
  · simp only [decide_eq_true_eq, Int.ofNat_lt] at h1
    obtain ⟨b3, of3, cs3, z3, st3, ro3, rfl, hg3, hw3⟩ := s3.out (by intro e; rw [e] at h1; simp at h1)
    have hla := hla h1
    have hsp := hO.lo o[i] (List.getElem_mem h1)
    have hsl := hO.asc.pos o[i] (List.getElem_mem h1)
    have hgap : ∀ h : i + 1 < o.length, o[i].2 < o[i + 1].1 := fun h => List.pairwise_iff_getElem.1 hO.asc.gap i (i + 1) h1 h (by omega)
    have htk := take_snoc h1
    obtain ⟨sp, hspe⟩ : ∃ sp, sp = o[i] := ⟨_, rfl⟩
    rw [← hspe] at hla hsp hsl htk
    simp only [← hspe] at hgap
    apply ct_skip
    apply ct_seq
    apply ct_block
    apply ct_seq
    apply ct_region
    apply seq_plain; exact do_indexAddrS rfl rfl rfl (by exact idx_nat (by omega)); exact rfl
    apply seq_plain; exact do_load rfl (by exact ext_get_old (by assumption) (by assumption)) rfl (by exact pt_sl (by assumption) (by omega)); exact rfl
    apply seq_newP; exact do_alloc rfl rfl; exact rfl
    apply seq_putC (hc := by assumption); rotate_left; exact do_store rfl rfl (by exact ext_get_new List.getElem?_concat_length) rfl rfl (nb_own _); rotate_left; exact (by simp)
    apply ct_seq
    apply ct_seq
    apply ct_region
    apply seq_plain; exact do_indexAddrA rfl rfl rfl (by exact rfl); exact rfl
    apply seq_plain; exact do_load rfl (by exact ext_get_new getSetLast) rfl (by exact rfl); exact rfl
    apply seq_plain; exact do_move rfl; exact rfl
    apply seq_plain; exact do_binInt rfl rfl rfl trivial; exact rfl
    apply seq_plain; exact do_move rfl; exact rfl
    rw [← hspe]
    refine seq_gsplit rfl rfl (fun w1 => ?_) (fun w1 => ?_)
    · exfalso
      have w1 : decide (sp.1 ≤ last) = true := w1
      simp only [decide_eq_true_eq] at w1; omega
    clear w1
    apply seq_guard (hd := rfl) (hl := rfl); exact do_indexAddrA rfl rfl rfl (by exact rfl); exact rfl
    apply seq_guard (hd := rfl) (hl := rfl); exact do_load rfl (by exact ext_get_new getSetLast) rfl (by exact rfl); exact rfl
    apply seq_guard (hd := rfl) (hl := rfl); exact do_indexAddrA rfl rfl rfl (by exact rfl); exact rfl
    apply seq_guard (hd := rfl) (hl := rfl); exact do_load rfl (by exact ext_get_new getSetLast) rfl (by exact rfl); exact rfl
    apply seq_guard (hd := rfl) (hl := rfl); exact do_binInt rfl rfl rfl trivial; exact rfl
    apply seq_plain; exact do_pick_f rfl rfl; exact rfl
    apply seq_plain; exact do_move rfl; exact rfl
    refine seq_gsplit rfl rfl (fun w1 => ?_) (fun w1 => ?_)
    · exfalso
      have w1 : decide (sp.2 ≤ sp.1) = true := w1
      simp only [decide_eq_true_eq] at w1; omega
    clear w1
    apply seq_guard (hd := rfl) (hl := rfl); exact do_indexAddrA rfl rfl rfl (by exact rfl); exact rfl
    apply seq_guard (hd := rfl) (hl := rfl); exact do_load rfl (by exact ext_get_new getSetLast) rfl (by exact rfl); exact rfl
    apply seq_guard (hd := rfl) (hl := rfl); exact do_binInt rfl rfl rfl trivial; exact rfl
    apply seq_plain; exact do_pick_f rfl rfl; exact rfl
    apply seq_plain; exact do_move rfl; exact rfl
    refine seq_gsplit rfl rfl (fun w1 => ?_) (fun w1 => ?_)
    · exfalso
      have w1 : decide (sp.2 > 99999) = true := w1
      simp only [decide_eq_true_eq] at w1; omega
    clear w1
    apply seq_guard (hd := rfl) (hl := rfl); exact do_indexAddrA rfl rfl rfl (by exact rfl); exact rfl
    apply seq_guard (hd := rfl) (hl := rfl); exact do_load rfl (by exact ext_get_new getSetLast) rfl (by exact rfl); exact rfl
    apply seq_guard (hd := rfl) (hl := rfl); exact do_binInt rfl rfl rfl trivial; exact rfl
    apply seq_plain; exact do_pick_f rfl rfl; exact rfl
    apply seq_nil
    refine ct_cond rfl (fun w1 => ?_) (fun w1 => ?_)
    · exfalso
      have w1 : decide (sp.1 < 0) = true := w1
      simp only [decide_eq_true_eq] at w1; omega
    clear w1
    rw [set_mid rfl]
    obtain ⟨n0, hn0⟩ : ∃ n0 : Nat, sp.1 = n0 := ⟨sp.1.toNat, by omega⟩
    have hFJ := hF.start hn0 hsl
    have hLx : ∀ x : ABlk, (L ++ [some x])[0]? = some (some (.cells (F.map Value.bool) 1 false false)) := fun x => getApp hL
    apply ct_skip
    apply ct_seq
    apply ct_seq
    apply ct_region
    apply seq_plain; exact do_indexAddrA rfl rfl rfl (by exact rfl); exact rfl
    apply seq_plain; exact do_load rfl (by exact ext_get_new List.getElem?_concat_length) rfl (by exact rfl); exact rfl
    apply seq_plain; exact do_assign rfl; exact rfl
    apply seq_nil
    apply ct_block
    apply ct_loop
    rw [hn0]
    refine lt_meas (α := Nat × List Bool × List (Option ABlk)) (fun a => [(1, .slice r l.length d), (5, .pointer (some ⟨bx, 0, none⟩)), (7, .slice p t.length t.length), (11, .bool (fitsV t l b)), (12, I 0), (13, .slice (some ⟨nb h2 0, 0, none⟩) 61 61), (16, .pointer (some ⟨nb h2 L.length, 0, none⟩)), (17, I a.1), (112, .slice (some ⟨b3, of3, none⟩) o.length o.length), (113, I o.length), (114, I i)]) (fun a => ext h2 lo a.2.2) (fun a => FrJ a.2.1 (o.take i) sp a.1 ∧ a.2.2[0]? = some (some (.cells (a.2.1.map Value.bool) 1 false false)) ∧ ∃ z, a.2.2[L.length]? = some (some (.cells (p2 sp) z false false))) (fun a => 61 - a.1) (fun a ha ih2 => ?_) (n0, F, _) ?_ (by repeat (first | exact sub_nil | apply sub_cons rfl)) (.refl _)
    rotate_left
    · exact ⟨hFJ, hLx _, 0, by rw [show p2 sp = [I (n0 : Int), I sp.2] by rw [← hn0]]; exact List.getElem?_concat_length⟩
    obtain ⟨n, F2, L2⟩ := a
    obtain ⟨hJ, hL2, zX, hX⟩ := ha
    simp only at hJ hL2 hX ih2 ⊢
    have ih2' := fun n' F' L' a1 a2 a3 a4 => ih2 (n', F', L') a1 ⟨a2, a3, a4⟩
    simp only at ih2'
    clear ih2
    have hl61 := hJ.len
    have hne0 : L.length ≠ 0 := fun e => by
      have := (List.getElem?_eq_some_iff.1 hL).1
      omega
    have fin2 : ¬ ((n : Int) < sp.2 ∧ n ≤ 60) → FrI F2 (o.take (i + 1)) := fun hx => by rw [htk]; exact hJ.done hx
    have fla : ∀ h : i + 1 < o.length, sp.2 < o[i + 1].1 := hgap
    apply ct_seq
    apply ct_seq
    apply ct_region
    apply seq_plain; exact do_move rfl; exact rfl
    apply seq_plain; exact do_indexAddrA rfl rfl rfl (by exact rfl); exact rfl
    apply seq_plain; exact do_load rfl (by exact ext_get_new (by assumption)) rfl (by exact rfl); exact rfl
    apply seq_plain; exact do_binInt rfl rfl rfl trivial; exact rfl
    apply seq_plain; exact do_move rfl; exact rfl
    refine seq_gsplit rfl rfl (fun w2 => ?_) (fun w2 => ?_)
    · have w2 : decide ((n : Int) < sp.2) = true := w2
      simp only [decide_eq_true_eq] at w2
      apply seq_guard (hd := rfl) (hl := rfl); exact do_move rfl; exact rfl
      apply seq_guard (hd := rfl) (hl := rfl); exact do_binInt rfl rfl rfl trivial; exact rfl
      apply seq_plain; exact do_pick_t rfl rfl; exact rfl
      apply seq_nil
      refine ct_cond rfl (fun w3 => ?_) (fun w3 => ?_)
      · have w3 : decide ((n : Int) ≤ 60) = true := w3
        simp only [decide_eq_true_eq] at w3
        have w3 : n ≤ 60 := by omega
        have hn61 : n < F2.length := by omega
        apply ct_skip
        apply ct_seq
        apply ct_block
        apply ct_region
        apply seq_plain; exact do_move rfl; exact rfl
        apply seq_plain; exact do_move rfl; exact rfl
        apply seq_plain; exact do_indexAddrS rfl rfl rfl (by exact idx_nat (by omega)); exact rfl
        refine seq_putQC (k := 0) hc' (List.getElem?_eq_some_iff.1 hL2).1 (do_store rfl rfl (ext_get_new hL2) rfl (stl_map (g := Value.bool) (v := true) hn61 rfl rfl) (nb_own _)) (fun M hl2 ho2 hk2 => ?_)
        apply ct_region
        apply seq_plain; exact do_move rfl; exact rfl
        apply seq_plain; exact do_succ rfl (by omega); exact rfl
        apply seq_plain; exact do_assign rfl; exact rfl
        apply seq_nil
        exact lt_to (by repeat (first | exact sub_nil | apply sub_cons rfl)) (.refl _) (ih2' (n + 1) (F2.set n true) M (by omega) (hJ.step w3 w2) hk2 ⟨zX, by rw [ho2 _ hne0]; exact hX⟩)
      · have w3 : decide ((n : Int) ≤ 60) = false := w3
        simp only [decide_eq_false_iff_not] at w3
        have hfi := fin2 fun hx => w3 (by omega)
        apply ct_exit
        apply exit_eq; exact rfl
        apply ct_region
        apply seq_plain; exact do_indexAddrA rfl rfl rfl (by exact rfl); exact rfl
        apply seq_plain; exact do_load rfl (by exact ext_get_new (by assumption)) rfl (by exact rfl); exact rfl
        apply seq_plain; exact do_assign rfl; exact rfl
        apply seq_nil
        apply ct_region
        apply seq_plain; exact do_succ rfl (by omega); exact rfl
        apply seq_plain; exact do_move rfl; exact rfl
        apply seq_nil
        exact lt_to (by repeat (first | exact sub_nil | apply sub_cons rfl)) (.refl _) (ih' (i + 1) F2 sp.2 L2 (by omega) (by omega) hfi fla hL2)
    · have w2 : decide ((n : Int) < sp.2) = false := w2
      simp only [decide_eq_false_iff_not] at w2
      have hfi := fin2 fun hx => w2 hx.1
      apply seq_passed (hd := rfl) (hl := rfl) (hb := rfl); exact rfl
      apply seq_passed (hd := rfl) (hl := rfl) (hb := rfl); exact rfl
      apply seq_plain; exact do_pick_f rfl rfl; exact rfl
      apply seq_nil
      refine ct_cond_f rfl rfl ?_
      apply ct_exit
      apply exit_eq; exact rfl
      apply ct_region
      apply seq_plain; exact do_indexAddrA rfl rfl rfl (by exact rfl); exact rfl
      apply seq_plain; exact do_load rfl (by exact ext_get_new (by assumption)) rfl (by exact rfl); exact rfl
      apply seq_plain; exact do_assign rfl; exact rfl
      apply seq_nil
      apply ct_region
      apply seq_plain; exact do_succ rfl (by omega); exact rfl
      apply seq_plain; exact do_move rfl; exact rfl
      apply seq_nil
      exact lt_to (by repeat (first | exact sub_nil | apply sub_cons rfl)) (.refl _) (ih' (i + 1) F2 sp.2 L2 (by omega) (by omega) hfi fla hL2)
  have h1 : i = o.length := by simp at h1; omega
  subst h1
  rw [List.take_length] at hF
  clear ih' hla
  have hl61 := hF.len
  have hFo : ∀ n (h : n < F.length), F[n] = opF t l b.kind (n : Int) := fun n h => hF.opF hO h
  apply ct_exit
  apply exit_eq; exact rfl
  apply ct_seq
  apply ct_region
  apply seq_plain; exact do_assign rfl; exact rfl
  apply seq_nil
  apply ct_seq
  apply ct_seq
  apply ct_region
  apply seq_plain; exact do_move rfl; exact rfl
  apply seq_plain; exact do_lenS rfl rfl rfl; exact rfl
  apply seq_plain; exact do_move rfl; exact rfl
  apply seq_nil
  apply ct_block
  apply ct_loop
  refine lt_meas (α := Nat × Bool × List (Option ABlk)) (fun a => [(1, .slice r l.length d), (5, .pointer (some ⟨bx, 0, none⟩)), (7, .slice p t.length t.length), (11, .bool (fitsV t l b)), (12, I 0), (13, .slice (some ⟨nb h2 0, 0, none⟩) 61 61), (18, .bool a.2.1), (157, .slice (some ⟨nb h2 0, 0, none⟩) 61 61), (158, I 61), (159, I a.1)]) (fun a => ext h2 lo a.2.2) (fun a => a.1 ≤ 61 ∧ (a.2.1 = true ↔ ∀ m : Nat, m < a.1 → b.frm ≤ m → (m : Int) < b.to → opF t l b.kind m = true) ∧ a.2.2[0]? = some (some (.cells (F.map Value.bool) 1 false false))) (fun a => 61 - a.1) (fun a ha ih => ?_) (0, true, L) ⟨by omega, ⟨fun _ m hm => absurd hm (Nat.not_lt_zero m), fun _ => rfl⟩, hL⟩ (by repeat (first | exact sub_nil | apply sub_cons rfl)) (.refl _)
  clear hL
  obtain ⟨n, al, L⟩ := a
  obtain ⟨hn, hal, hL⟩ := ha
  simp only at hn hal hL ih ⊢
  have ih' := fun n' al' L' a1 a2 a3 a4 => ih (n', al', L') a1 ⟨a2, a3, a4⟩
  simp only at ih'
  clear ih
  apply ct_seq
  apply ct_region
  apply seq_plain; exact do_binInt rfl rfl rfl trivial; exact rfl
  apply seq_nil
  apply ct_seq
  refine ct_cond rfl (fun h1 => ?_) (fun h1 => ?_)
  · have h1 : n < 61 := by
      have h1 : decide ((n : Int) < 61) = true := h1
      simp only [decide_eq_true_eq] at h1; omega
    have hnF : n < F.length := by omega
    have hFn := hFo n hnF
    obtain ⟨Fn, hFne⟩ : ∃ Fn, Fn = F[n] := ⟨_, rfl⟩
    obtain ⟨al2, hal2⟩ : ∃ al2 : Bool, al2 = if b.frm ≤ n ∧ (n : Int) < b.to then al && Fn else al := ⟨_, rfl⟩
    have hnx : al2 = true ↔ ∀ m : Nat, m < n + 1 → b.frm ≤ m → (m : Int) < b.to → opF t l b.kind m = true := by
      rw [hal2]
      by_cases hc : b.frm ≤ n ∧ (n : Int) < b.to
      · rw [if_pos hc, Bool.and_eq_true, hal, hFne, hFn]
        constructor
        · rintro ⟨k1, k2⟩ m hm m1 m2
          rcases Nat.lt_or_ge m n with e | e
          · exact k1 m e m1 m2
          · obtain rfl : m = n := by omega
            exact k2
        · intro k
          exact ⟨fun m hm => k m (by omega), k n (by omega) hc.1 hc.2⟩
      · rw [if_neg hc, hal]
        constructor
        · intro k m hm m1 m2
          rcases Nat.lt_or_ge m n with e | e
          · exact k m e m1 m2
          · obtain rfl : m = n := by omega
            exact absurd ⟨m1, m2⟩ hc
        · intro k m hm
          exact k m (by omega)
    apply ct_skip
    apply ct_seq
    apply ct_block
    apply ct_seq
    apply ct_region
    apply seq_plain; exact do_move rfl; exact rfl
    apply seq_plain; exact do_assign rfl; exact rfl
    apply seq_nil
    apply ct_seq
    apply ct_seq
    apply ct_region
    apply seq_plain; exact do_move rfl; exact rfl
    apply seq_plain; exact do_fieldAddr rfl rfl; exact rfl
    apply seq_plain; exact do_load rfl (by exact ext_get_old (by assumption) (by assumption)) rfl (by exact rfl); exact rfl
    apply seq_plain; exact do_binInt rfl rfl rfl trivial; exact rfl
    apply seq_plain; exact do_move rfl; exact rfl
    refine seq_J [(1, .slice r l.length d), (5, .pointer (some ⟨bx, 0, none⟩)), (7, .slice p t.length t.length), (11, .bool (fitsV t l b)), (12, I 0), (13, .slice (some ⟨nb h2 0, 0, none⟩) 61 61), (18, .bool al), (19, I n), (157, .slice (some ⟨nb h2 0, 0, none⟩) 61 61), (158, I 61), (159, I n), (171, .bool (decide (b.frm ≤ n ∧ (n : Int) < b.to)))] (ds := []) (h := ext h2 lo L) ?_ ?_
    · refine seq_gsplit rfl rfl (fun w2 => ?_) (fun w2 => ?_)
      · have w2 : decide ((n : Int) ≥ b.frm) = true := w2
        simp only [decide_eq_true_eq] at w2
        have e : decide (b.frm ≤ n ∧ (n : Int) < b.to) = decide ((n : Int) < b.to) := by simp [show b.frm ≤ n from w2]
        rw [e]
        apply seq_guard (hd := rfl) (hl := rfl); exact do_move rfl; exact rfl
        apply seq_guard (hd := rfl) (hl := rfl); exact do_fieldAddr rfl rfl; exact rfl
        apply seq_guard (hd := rfl) (hl := rfl); exact do_load rfl (by exact ext_get_old (by assumption) (by assumption)) rfl (by exact rfl); exact rfl
        apply seq_guard (hd := rfl) (hl := rfl); exact do_binInt rfl rfl rfl trivial; exact rfl
        apply seq_plain; exact do_pick_t rfl rfl; exact rfl
        apply seq_nil
        exact jp_of (by repeat (first | exact sub_nil | apply sub_cons rfl))
      · have w2 : decide ((n : Int) ≥ b.frm) = false := w2
        simp only [decide_eq_false_iff_not] at w2
        have e : decide (b.frm ≤ n ∧ (n : Int) < b.to) = false := decide_eq_false fun h => w2 h.1
        rw [e]
        apply seq_passed (hd := rfl) (hl := rfl) (hb := rfl); exact rfl
        apply seq_passed (hd := rfl) (hl := rfl) (hb := rfl); exact rfl
        apply seq_passed (hd := rfl) (hl := rfl) (hb := rfl); exact rfl
        apply seq_passed (hd := rfl) (hl := rfl) (hb := rfl); exact rfl
        apply seq_plain; exact do_pick_f rfl rfl; exact rfl
        apply seq_nil
        exact jp_of (by repeat (first | exact sub_nil | apply sub_cons rfl))
    refine ct_JE [(1, .slice r l.length d), (5, .pointer (some ⟨bx, 0, none⟩)), (7, .slice p t.length t.length), (11, .bool (fitsV t l b)), (12, I 0), (13, .slice (some ⟨nb h2 0, 0, none⟩) 61 61), (18, .bool al2), (19, I n), (157, .slice (some ⟨nb h2 0, 0, none⟩) 61 61), (158, I 61), (159, I n)] (ds := []) (h := ext h2 lo L) ?_ ?_
    · refine ct_cond rfl (fun w2 => ?_) (fun w2 => ?_)
      · rw [if_pos (of_decide_eq_true w2)] at hal2
        apply ct_region
        apply seq_plain; exact do_move rfl; exact rfl
        apply seq_plain; exact do_move rfl; exact rfl
        refine seq_gsplit rfl rfl (fun w3 => ?_) (fun w3 => ?_)
        · have w3 : al = true := w3
          rw [w3, hFne] at hal2
          rw [hal2]
          apply seq_guard (hd := rfl) (hl := rfl); exact do_move rfl; exact rfl
          apply seq_guard (hd := rfl) (hl := rfl); exact do_move rfl; exact rfl
          apply seq_guard (hd := rfl) (hl := rfl); exact do_indexAddrS rfl rfl rfl (by exact idx_nat (by omega)); exact rfl
          apply seq_guard (hd := rfl) (hl := rfl); exact do_load rfl (by exact ext_get_new (by assumption)) rfl (by exact pt_map (by omega)); exact rfl
          apply seq_plain; exact do_pick_t rfl rfl; exact rfl
          apply seq_plain; exact do_assign rfl; exact rfl
          apply seq_nil
          exact jp_of (by repeat (first | exact sub_nil | apply sub_cons rfl))
        · have w3 : al = false := w3
          rw [w3] at hal2
          rw [hal2]
          apply seq_passed (hd := rfl) (hl := rfl) (hb := rfl); exact rfl
          apply seq_passed (hd := rfl) (hl := rfl) (hb := rfl); exact rfl
          apply seq_passed (hd := rfl) (hl := rfl) (hb := rfl); exact rfl
          apply seq_passed (hd := rfl) (hl := rfl) (hb := rfl); exact rfl
          apply seq_plain; exact do_pick_f rfl rfl; exact rfl
          apply seq_plain; exact do_assign rfl; exact rfl
          apply seq_nil
          exact jp_of (by repeat (first | exact sub_nil | apply sub_cons rfl))
      · rw [if_neg (of_decide_eq_false w2)] at hal2
        rw [hal2]
        apply ct_skip
        exact jp_of (by repeat (first | exact sub_nil | apply sub_cons rfl))
    clear hal2 hal
    apply ct_seq
    apply ct_region
    apply seq_plain; exact do_assign rfl; exact rfl
    apply seq_nil
    apply ct_seq
    apply ct_seq
    apply ct_region
    apply seq_plain; exact do_move rfl; exact rfl
    apply seq_plain; exact do_lenS rfl rfl rfl; exact rfl
    apply seq_plain; exact do_move rfl; exact rfl
    apply seq_nil
    apply ct_block
    apply ct_loop
    refine lt_meas (α := Nat × List (Option ABlk)) (fun a => [(1, .slice r l.length d), (5, .pointer (some ⟨bx, 0, none⟩)), (7, .slice p t.length t.length), (11, .bool (fitsV t l b)), (12, I 0), (13, .slice (some ⟨nb h2 0, 0, none⟩) 61 61), (18, .bool al2), (19, I n), (20, I (cntD (l.take a.1) b.kind n)), (157, .slice (some ⟨nb h2 0, 0, none⟩) 61 61), (158, I 61), (159, I n), (179, .slice r l.length d), (180, I l.length), (181, I a.1)]) (fun a => ext h2 lo a.2) (fun a => a.1 ≤ l.length ∧ a.2[0]? = some (some (.cells (F.map Value.bool) 1 false false))) (fun a => l.length - a.1) (fun a ha ih2 => ?_) (0, L) ⟨Nat.zero_le _, hL⟩ (by repeat (first | exact sub_nil | apply sub_cons rfl)) (.refl _)
    clear hL
    obtain ⟨j, L⟩ := a
    obtain ⟨hj, hL⟩ := ha
    simp only at hj hL ih2 ⊢
    have ih2' := fun j' L' a1 a2 a3 => ih2 (j', L') a1 ⟨a2, a3⟩
    simp only at ih2'
    clear ih2
    apply ct_seq
    apply ct_region
    apply seq_plain; exact do_binInt rfl rfl rfl trivial; exact rfl
    apply seq_nil
    apply ct_seq
    refine ct_cond rfl (fun h3 => ?_) (fun h3 => ?_)
    · simp only [decide_eq_true_eq, Int.ofNat_lt] at h3
      obtain ⟨b4, of4, cs4, z4, st4, ro4, rfl, hg4, hw4⟩ := hre.out (by intro e; rw [e] at h3; simp at h3)
      have se := cntD_snoc (k := b.kind) (q := (n : Int)) h3
      have sl := cntD_take (l := l) (k := b.kind) (q := (n : Int)) (i := j)
      obtain ⟨Z, hZ⟩ : ∃ Z, Z = isAt b.kind n l[j] := ⟨_, rfl⟩
      rw [← hZ] at se
      apply ct_skip
      apply ct_seq
      apply ct_block
      apply ct_seq
      apply ct_region
      apply seq_plain; exact do_indexAddrS rfl rfl rfl (by exact idx_nat (by omega)); exact rfl
      apply seq_plain; exact do_load rfl (by exact ext_get_old (by assumption) (by assumption)) rfl (by exact pt_sl (by assumption) (by omega)); exact rfl
      apply seq_newP; exact do_alloc rfl rfl; exact rfl
      apply seq_putC (hc := by assumption); rotate_left; exact do_store rfl rfl (by exact ext_get_new List.getElem?_concat_length) rfl rfl (nb_own _); rotate_left; exact (by simp)
      apply ct_seq
      apply ct_region
      apply seq_plain; exact do_fieldAddr rfl rfl; exact rfl
      apply seq_plain; exact do_load rfl (by exact ext_get_new getSetLast) rfl (by exact rfl); exact rfl
      apply seq_plain; exact do_fieldAddr rfl rfl; exact rfl
      apply seq_plain; exact do_load rfl (by exact ext_get_old (by assumption) (by assumption)) rfl (by exact rfl); exact rfl
      apply seq_plain; exact do_binStr rfl rfl rfl; exact rfl
      apply seq_plain; exact do_move rfl; exact rfl
      rw [set_mid rfl]
      refine seq_J [(1, .slice (some ⟨b4, of4, none⟩) l.length d), (5, .pointer (some ⟨bx, 0, none⟩)), (7, .slice p t.length t.length), (11, .bool (fitsV t l b)), (12, I 0), (13, .slice (some ⟨nb h2 0, 0, none⟩) 61 61), (18, .bool al2), (19, I n), (20, I (cntD (l.take j) b.kind n)), (157, .slice (some ⟨nb h2 0, 0, none⟩) 61 61), (158, I 61), (159, I n), (179, .slice (some ⟨b4, of4, none⟩) l.length d), (180, I l.length), (181, I j), (201, .bool Z)] (ds := []) (h := ext h2 lo (L ++ [some (.cells (bk l[j]) 0 false false)])) ?_ ?_
      · refine seq_gsplit rfl rfl (fun w1 => ?_) (fun w1 => ?_)
        · have w1 : byteL l[j].kind.data.toList b.kind.data.toList = true := w1
          rw [bytes_eq] at w1
          apply seq_guard (hd := rfl) (hl := rfl); exact do_fieldAddr rfl rfl; exact rfl
          apply seq_guard (hd := rfl) (hl := rfl); exact do_load rfl (by exact ext_get_new List.getElem?_concat_length) rfl (by exact rfl); exact rfl
          apply seq_guard (hd := rfl) (hl := rfl); exact do_move rfl; exact rfl
          apply seq_guard (hd := rfl) (hl := rfl); exact do_binInt rfl rfl rfl trivial; exact rfl
          apply seq_plain; exact do_pick_t rfl rfl; exact rfl
          apply seq_plain; exact do_move rfl; exact rfl
          refine seq_gsplit rfl rfl (fun w2 => ?_) (fun w2 => ?_)
          · have w2 : decide (l[j].frm ≤ (n : Int)) = true := w2
            have e : Z = decide ((n : Int) < l[j].to) := by rw [hZ]; unfold isAt; rw [w1, w2]; rfl
            rw [e]
            apply seq_guard (hd := rfl) (hl := rfl); exact do_move rfl; exact rfl
            apply seq_guard (hd := rfl) (hl := rfl); exact do_fieldAddr rfl rfl; exact rfl
            apply seq_guard (hd := rfl) (hl := rfl); exact do_load rfl (by exact ext_get_new List.getElem?_concat_length) rfl (by exact rfl); exact rfl
            apply seq_guard (hd := rfl) (hl := rfl); exact do_binInt rfl rfl rfl trivial; exact rfl
            apply seq_plain; exact do_pick_t rfl rfl; exact rfl
            apply seq_nil
            exact jp_of (by repeat (first | exact sub_nil | apply sub_cons rfl))
          · have w2 : decide (l[j].frm ≤ (n : Int)) = false := w2
            have e : Z = false := by rw [hZ]; unfold isAt; rw [w1, w2]; rfl
            rw [e]
            apply seq_passed (hd := rfl) (hl := rfl) (hb := rfl); exact rfl
            apply seq_passed (hd := rfl) (hl := rfl) (hb := rfl); exact rfl
            apply seq_passed (hd := rfl) (hl := rfl) (hb := rfl); exact rfl
            apply seq_passed (hd := rfl) (hl := rfl) (hb := rfl); exact rfl
            apply seq_plain; exact do_pick_f rfl rfl; exact rfl
            apply seq_nil
            exact jp_of (by repeat (first | exact sub_nil | apply sub_cons rfl))
        · have w1 : byteL l[j].kind.data.toList b.kind.data.toList = false := w1
          rw [bytes_eq] at w1
          have e : Z = false := by rw [hZ]; unfold isAt; rw [w1]; rfl
          rw [e]
          apply seq_passed (hd := rfl) (hl := rfl) (hb := rfl); exact rfl
          apply seq_passed (hd := rfl) (hl := rfl) (hb := rfl); exact rfl
          apply seq_passed (hd := rfl) (hl := rfl) (hb := rfl); exact rfl
          apply seq_passed (hd := rfl) (hl := rfl) (hb := rfl); exact rfl
          apply seq_plain; exact do_pick_f rfl rfl; exact rfl
          apply seq_plain; exact do_move rfl; exact rfl
          apply seq_passed (hd := rfl) (hl := rfl) (hb := rfl); exact rfl
          apply seq_passed (hd := rfl) (hl := rfl) (hb := rfl); exact rfl
          apply seq_passed (hd := rfl) (hl := rfl) (hb := rfl); exact rfl
          apply seq_passed (hd := rfl) (hl := rfl) (hb := rfl); exact rfl
          apply seq_plain; exact do_pick_f rfl rfl; exact rfl
          apply seq_nil
          exact jp_of (by repeat (first | exact sub_nil | apply sub_cons rfl))
      refine ct_JE [(1, .slice (some ⟨b4, of4, none⟩) l.length d), (5, .pointer (some ⟨bx, 0, none⟩)), (7, .slice p t.length t.length), (11, .bool (fitsV t l b)), (12, I 0), (13, .slice (some ⟨nb h2 0, 0, none⟩) 61 61), (18, .bool al2), (19, I n), (20, I (cntD (l.take (j + 1)) b.kind n)), (157, .slice (some ⟨nb h2 0, 0, none⟩) 61 61), (158, I 61), (159, I n), (179, .slice (some ⟨b4, of4, none⟩) l.length d), (180, I l.length), (181, I j)] (ds := []) (h := ext h2 lo (L ++ [some (.cells (bk l[j]) 0 false false)])) ?_ ?_
      · rw [se]
        refine ct_cond rfl (fun w1 => ?_) (fun w1 => ?_)
        · have w1 : Z = true := w1
          rw [if_pos w1]
          apply ct_region
          apply seq_plain; exact do_move rfl; exact rfl
          apply seq_plain; exact do_succ rfl (by omega); exact rfl
          apply seq_plain; exact do_assign rfl; exact rfl
          apply seq_nil
          exact jp_of (by repeat (first | exact sub_nil | apply sub_cons rfl))
        · have w1 : Z = false := w1
          rw [if_neg (by rw [w1]; simp)]
          apply ct_skip
          exact jp_of (by repeat (first | exact sub_nil | apply sub_cons rfl))
      apply ct_region
      apply seq_plain; exact do_succ rfl (by omega); exact rfl
      apply seq_plain; exact do_move rfl; exact rfl
      apply seq_nil
      exact lt_to (by repeat (first | exact sub_nil | apply sub_cons rfl)) (.refl _) (ih2' (j + 1) _ (by omega) (by omega) (getApp hL))
    have h3 : j = l.length := by simp at h3; omega
    subst h3
    rw [List.take_length]
    clear ih2'
    apply ct_exit
    apply exit_eq; exact rfl
    apply ct_seq
    apply ct_draw (by assumption); decide +kernel
    apply sd_plain (hfree := rfl); intro _; exact do_move rfl; exact rfl
    apply sd_plain (hfree := rfl); intro _; exact do_move rfl; exact rfl
    apply sd_plain (hfree := rfl); intro _; exact do_indexAddrS rfl rfl rfl (by exact idx_nat (by omega)); exact rfl
    apply sd_look (hfree := rfl); exact do_load rfl (by exact ext_get_new (getApp (by assumption))) rfl (by exact pt_map (by omega)); exact rfl
    apply sd_plain (hfree := rfl); intro _; exact do_move rfl; exact rfl
    apply sd_plain (hfree := rfl); intro _; exact do_move rfl; exact rfl
    apply sd_plain (hfree := rfl); intro _; exact do_fieldAddr rfl rfl; exact rfl
    apply sd_look (hfree := rfl); exact do_load rfl (by exact ext_get_old (by assumption) (by assumption)) rfl (by exact rfl); exact rfl
    apply sd_call (ht := rfl); exact refTables1_c (hsE _ _) (by omega); exact rfl
    apply sd_plain (hfree := rfl); intro _; exact do_binInt rfl rfl rfl trivial; exact rfl
    apply sd_plain (hfree := rfl); intro _; exact do_neq rfl rfl trivial rfl; exact rfl
    apply sd_nil
    refine ct_cond rfl (fun w1 => ?_) (fun w1 => ?_)
    · exfalso
      have w1 : (!(F[n] == decide ((cntD l b.kind n : Int) < cntK t b.kind))) = true := w1
      rw [hFn] at w1
      simp [opF] at w1
    clear w1
    apply ct_skip
    apply ct_region
    apply seq_plain; exact do_succ rfl (by omega); exact rfl
    apply seq_plain; exact do_move rfl; exact rfl
    apply seq_nil
    exact lt_to (by repeat (first | exact sub_nil | apply sub_cons rfl)) (by simp only [List.map_nil, List.append_nil]; exact .refl _) (ih' (n + 1) al2 L (by omega) (by omega) hnx hL)
  have h1 : n = 61 := by
    have h1 : decide ((n : Int) < 61) = false := h1
    simp only [decide_eq_false_iff_not] at h1; omega
  subst h1
  clear ih'
  have e : al = fitsV t l b := by
    rw [Bool.eq_iff_iff, hfit, hal]
    constructor
    · intro k z z1 z2
      have h0 := hbk.f0
      obtain ⟨m, rfl⟩ : ∃ m : Nat, z = m := ⟨z.toNat, by omega⟩
      exact k m (by omega) z1 z2
    · intro k m hm m1 m2
      exact k m m1 m2
  rw [e]
  apply ct_exit
  apply exit_eq; exact rfl
  apply ct_seq
  apply ct_region
  apply seq_plain; exact do_move rfl; exact rfl
  apply seq_plain; exact do_binInt rfl rfl rfl trivial; exact rfl
  apply seq_plain; exact do_move rfl; exact rfl
  apply seq_guard (hd := rfl) (hl := rfl); exact do_move rfl; exact rfl
  apply seq_guard (hd := rfl) (hl := rfl); exact do_move rfl; exact rfl
  apply seq_guard (hd := rfl) (hl := rfl); exact do_eql rfl rfl trivial rfl; exact rfl
  apply seq_plain; exact do_pick_t rfl rfl; exact rfl
  apply seq_plain; exact do_assign rfl; exact rfl
  apply seq_nil
  apply ct_ret
  simp only [beq_self_eq_true]
  exact fin_flatB hc hc' hE rfl rfl ⟨rfl, rfl⟩
end Go.Proofs.YtfegloadbajbhaaGreatDoor
