/- HallBalances: the law's own walk. -/
import Derived.Test.YtfegloadbajbhaaGreatDoorBcD
import Derived.Test.YtfegloadbajbhaaGreatDoorBcL
import Derived.Test.YtfegloadbajbhaaGreatDoorHpE
noncomputable section
namespace Go.Proofs.YtfegloadbajbhaaGreatDoor
open Go Go.Den
set_option maxRecDepth 100000

theorem seq_gnewR {P : Program} [PC P] {rd : Option Nat} {nt : Nat} {ops : Array Oper} {l : EL} {ds : List Nat} {K : St → Prop} {i : Nat} {r : List Oper} {ty : TypeId} {pos : String} {af : Array Edge} {d : Nat} {op : Op} {H : AHeap} {lo n c j t : Nat} {w : Bool} {L : List (Option ABlk)} {x : ABlk} (hd : gdst ops j = some t) (hl : lk l t = some (.bool w)) (hop : Does P l op (ext H lo L) (.slice (some ⟨(ext H lo L).fresh, 0, none⟩) n c) ((ext H lo L).add x)) (hdn : Nat.blt d nt = true)
    (hk : SeqL P rd nt ops r (i + 1) ⟨ofA ((d, .slice (some ⟨nb H L.length, 0, none⟩) n c) :: l), ds, ext H lo (L ++ [some x])⟩ K) : SeqL P rd nt ops (⟨some d, op, ty, pos, af, some (j, w)⟩ :: r) i ⟨ofA l, ds, ext H lo L⟩ K := by
  rw [ext_fresh, ext_add] at hop
  exact seq_guard hd hl hop hdn hk
theorem lowS_lst {α : Type} {b : Nat} {l : List α} : LowS (lstP b l) l.length l.length := by
  cases l with
  | nil => exact ⟨Nat.le_refl _, fun _ => ⟨rfl, rfl⟩, fun a e => (by cases e)⟩
  | cons a l => exact ⟨Nat.le_refl _, fun e => (by cases e), fun a e => (by cases e; rfl)⟩
set_option maxHeartbeats 16000000 in
theorem bals_w {H : AHeap} {q qr : Option Addr} {c cr : Nat} {l : List Po} {r : List Ra} {dep note : Int} {b : Bk} (haw : ∀ h, Ext H h → Ret Tryz.prog 17 [] h (.bool true) h) (hs : SlAt H 3 po q l) (hlow : LowS q c l.length) (hn : l.length ≤ 1048576) (hr : SlAt H 3 ra qr r) (hlow2 : LowS qr cr r.length) (hm : r.length ≤ 1048576) :
    Ret Tryz.prog 14 [.slice q l.length c, chV qr r.length cr dep note, .agg ⟨bk b⟩] H (.bool true) H := by
  refine fn_start Tryz.func14 rfl rfl rfl fun hc => ?_
  have cO : ∀ L, Ret Tryz.prog 64 [.slice q l.length c] (ext H H.fresh L) (lstV (nb H L.length) l) (ext H H.fresh (L ++ lstL 3 po l)) := fun L => by
    have := ownPo_c (c := c) (hs.ext (ext_Ext hc (lo := H.fresh) (L := L))) (by omega)
    rwa [lstH_ext, ext_fresh] at this
  have cS : ∀ L, Ret Tryz.prog 80 [lstV (nb H L.length) l] (ext H H.fresh (L ++ lstL 3 po l)) (.bool (shortP9 l)) (ext H H.fresh (L ++ lstL 3 po l)) := fun L =>
    shortPostings_c (c := l.length) (lst_slAt (H := H) (lo := H.fresh) (L := L) (m := 3) (f := po) (l := l) po_len) (by omega)
  have cR : ∀ L, Ret Tryz.prog 81 [lstV (nb H L.length) l] (ext H H.fresh (L ++ lstL 3 po l)) (I (possE l)) (ext H H.fresh (L ++ lstL 3 po l)) := fun L =>
    refPostings_c (c := l.length) (lst_slAt (H := H) (lo := H.fresh) (L := L) (m := 3) (f := po) (l := l) po_len) (by omega)
  have cQ : ∀ L, Ret Tryz.prog 58 [chV qr r.length cr dep note] (ext H H.fresh L) (.agg ⟨[lstV (nb H L.length) r, I dep, I note]⟩) (ext H H.fresh (L ++ lstL 3 ra r)) := fun L => by
    have := ownCharge_c (c := cr) (dep := dep) (note := note) (hr.ext (ext_Ext hc (lo := H.fresh) (L := L))) (by omega)
    rwa [lstH_ext, ext_fresh] at this
  have cC : ∀ L, Ret Tryz.prog 59 [.agg ⟨[lstV (nb H L.length) r, I dep, I note]⟩] (ext H H.fresh (L ++ lstL 3 ra r)) (I (chargeE r dep note)) (ext H H.fresh (L ++ lstL 3 ra r)) := fun L =>
    refCharge_c (c := r.length) (dep := dep) (note := note) (lst_slAt (H := H) (lo := H.fresh) (L := L) (m := 3) (f := ra) (l := r) ra_len) (by omega)
  have cB : ∀ L, Ret Tryz.prog 22 [.slice (some ⟨nb H L.length, 0, none⟩) 1 1] (ext H H.fresh (L ++ [some (.cells ([b].flatMap bk) 4 false false)])) (I (booksE [b])) (ext H H.fresh (L ++ [some (.cells ([b].flatMap bk) 4 false false)])) := fun L =>
    refBookings_c (l := [b]) (slAt_flat bk_len (ext_get_new (List.getElem?_concat_length (l := L) (a := some (.cells ([b].flatMap bk) 4 false false))))) (by simp)
  apply ct_seq
  apply ct_region
  apply seq_newP; exact do_box rfl rfl rfl; exact rfl
  apply seq_newP; exact do_box rfl rfl rfl; exact rfl
  apply seq_plain; exact do_assign rfl; exact rfl
  apply seq_nil
  obtain ⟨L, hL⟩ : ∃ L : List (Option ABlk), L = [] ++ [some (.cells [.slice qr r.length cr, I dep, I note] 0 false false)] ++ [some (.cells (bk b) 0 false false)] := ⟨_, rfl⟩
  have f0 : L[0]? = some (some (.cells [.slice qr r.length cr, I dep, I note] 0 false false)) := by rw [hL]; rfl
  have f1 : L[1]? = some (some (.cells (bk b) 0 false false)) := by rw [hL]; rfl
  refine ct_to (l' := [(0, .slice q l.length c), (4, .pointer (some ⟨nb H 0, 0, none⟩)), (5, .pointer (some ⟨nb H 1, 0, none⟩)), (6, .bool false)]) (by repeat (first | exact sub_nil | apply sub_cons rfl)) (h' := ext H H.fresh L) (by rw [hL]; exact .refl _) ?_
  clear hL
  apply ct_seq
  apply ct_seq
  apply ct_region
  refine seq_JX (ds := []) (α := Bool × List (Option ABlk)) (fun a => [(0, .slice q l.length c), (4, .pointer (some ⟨nb H 0, 0, none⟩)), (5, .pointer (some ⟨nb H 1, 0, none⟩)), (6, .bool false), (88, .bool a.1)]) (fun a => ext H H.fresh a.2) (fun a => (a.1 = false → BcIn l r dep note b) ∧ a.2[0]? = some (some (.cells [.slice qr r.length cr, I dep, I note] 0 false false)) ∧ a.2[1]? = some (some (.cells (bk b) 0 false false))) ?_ (fun a ha => ?_)
  · apply seq_call (ht := rfl); exact haw _ (ext_Ext hc); exact rfl
    apply seq_plain; exact do_unOp rfl rfl; exact rfl
    apply seq_plain; exact do_move rfl; exact rfl
    apply seq_guard (hd := rfl) (hl := rfl); exact do_move rfl; exact rfl
    apply seq_guard (hd := rfl) (hl := rfl); exact do_lenS rfl rfl rfl; exact rfl
    apply seq_guard (hd := rfl) (hl := rfl); exact do_binInt rfl rfl rfl trivial; exact rfl
    apply seq_plain; exact do_pick_f rfl rfl; exact rfl
    apply seq_plain; exact do_move rfl; exact rfl
    refine seq_gsplit rfl rfl (fun u1 => ?_) (fun u1 => ?_)
    · have u1 : decide ((l.length : Int) > 20) = true := u1
      apply seq_passed (hd := rfl) (hl := rfl) (hb := rfl); exact rfl
      apply seq_passed (hd := rfl) (hl := rfl) (hb := rfl); exact rfl
      apply seq_passed (hd := rfl) (hl := rfl) (hb := rfl); exact rfl
      apply seq_passed (hd := rfl) (hl := rfl) (hb := rfl); exact rfl
      apply seq_plain; exact do_pick_t rfl rfl; exact rfl
      apply seq_plain; exact do_move rfl; exact rfl
      apply seq_passed (hd := rfl) (hl := rfl) (hb := rfl); exact rfl
      apply seq_passed (hd := rfl) (hl := rfl) (hb := rfl); exact rfl
      apply seq_passed (hd := rfl) (hl := rfl) (hb := rfl); exact rfl
      apply seq_passed (hd := rfl) (hl := rfl) (hb := rfl); exact rfl
      apply seq_plain; exact do_pick_t rfl rfl; exact rfl
      apply seq_plain; exact do_move rfl; exact rfl
      apply seq_passed (hd := rfl) (hl := rfl) (hb := rfl); exact rfl
      apply seq_passed (hd := rfl) (hl := rfl) (hb := rfl); exact rfl
      apply seq_passed (hd := rfl) (hl := rfl) (hb := rfl); exact rfl
      apply seq_passed (hd := rfl) (hl := rfl) (hb := rfl); exact rfl
      apply seq_plain; exact do_pick_t rfl rfl; exact rfl
      apply seq_plain; exact do_move rfl; exact rfl
      apply seq_passed (hd := rfl) (hl := rfl) (hb := rfl); exact rfl
      apply seq_passed (hd := rfl) (hl := rfl) (hb := rfl); exact rfl
      apply seq_passed (hd := rfl) (hl := rfl) (hb := rfl); exact rfl
      apply seq_passed (hd := rfl) (hl := rfl) (hb := rfl); exact rfl
      apply seq_plain; exact do_pick_t rfl rfl; exact rfl
      apply seq_plain; exact do_move rfl; exact rfl
      apply seq_passed (hd := rfl) (hl := rfl) (hb := rfl); exact rfl
      apply seq_passed (hd := rfl) (hl := rfl) (hb := rfl); exact rfl
      apply seq_passed (hd := rfl) (hl := rfl) (hb := rfl); exact rfl
      apply seq_passed (hd := rfl) (hl := rfl) (hb := rfl); exact rfl
      apply seq_plain; exact do_pick_t rfl rfl; exact rfl
      apply seq_plain; exact do_move rfl; exact rfl
      apply seq_passed (hd := rfl) (hl := rfl) (hb := rfl); exact rfl
      apply seq_passed (hd := rfl) (hl := rfl) (hb := rfl); exact rfl
      apply seq_passed (hd := rfl) (hl := rfl) (hb := rfl); exact rfl
      apply seq_passed (hd := rfl) (hl := rfl) (hb := rfl); exact rfl
      apply seq_plain; exact do_pick_t rfl rfl; exact rfl
      apply seq_plain; exact do_move rfl; exact rfl
      apply seq_passed (hd := rfl) (hl := rfl) (hb := rfl); exact rfl
      apply seq_passed (hd := rfl) (hl := rfl) (hb := rfl); exact rfl
      apply seq_passed (hd := rfl) (hl := rfl) (hb := rfl); exact rfl
      apply seq_passed (hd := rfl) (hl := rfl) (hb := rfl); exact rfl
      apply seq_plain; exact do_pick_t rfl rfl; exact rfl
      apply seq_plain; exact do_move rfl; exact rfl
      apply seq_passed (hd := rfl) (hl := rfl) (hb := rfl); exact rfl
      apply seq_passed (hd := rfl) (hl := rfl) (hb := rfl); exact rfl
      apply seq_passed (hd := rfl) (hl := rfl) (hb := rfl); exact rfl
      apply seq_passed (hd := rfl) (hl := rfl) (hb := rfl); exact rfl
      apply seq_passed (hd := rfl) (hl := rfl) (hb := rfl); exact rfl
      apply seq_passed (hd := rfl) (hl := rfl) (hb := rfl); exact rfl
      apply seq_plain; exact do_pick_t rfl rfl; exact rfl
      apply seq_nil
      exact jx_of (true, _) ⟨fun h => (by cases h), f0, f1⟩ (by repeat (first | exact sub_nil | apply sub_cons rfl)) rfl
    have u1 : decide ((l.length : Int) > 20) = false := u1
    apply seq_guard (hd := rfl) (hl := rfl); exact do_move rfl; exact rfl
    apply seq_gcall (hg := rfl) (hl := rfl) (ht := rfl); exact cO _; exact rfl
    have f0 := getApp (m := lstL 3 po l) f0
    have f1 := getApp (m := lstL 3 po l) f1
    skip
    apply seq_gcall (hg := rfl) (hl := rfl) (ht := rfl); exact cS _; exact rfl
    apply seq_guard (hd := rfl) (hl := rfl); exact do_unOp rfl rfl; exact rfl
    apply seq_plain; exact do_pick_f rfl rfl; exact rfl
    apply seq_plain; exact do_move rfl; exact rfl
    refine seq_gsplit rfl rfl (fun u2 => ?_) (fun u2 => ?_)
    · apply seq_passed (hd := rfl) (hl := rfl) (hb := rfl); exact rfl
      apply seq_passed (hd := rfl) (hl := rfl) (hb := rfl); exact rfl
      apply seq_passed (hd := rfl) (hl := rfl) (hb := rfl); exact rfl
      apply seq_passed (hd := rfl) (hl := rfl) (hb := rfl); exact rfl
      apply seq_plain; exact do_pick_t rfl rfl; exact rfl
      apply seq_plain; exact do_move rfl; exact rfl
      apply seq_passed (hd := rfl) (hl := rfl) (hb := rfl); exact rfl
      apply seq_passed (hd := rfl) (hl := rfl) (hb := rfl); exact rfl
      apply seq_passed (hd := rfl) (hl := rfl) (hb := rfl); exact rfl
      apply seq_passed (hd := rfl) (hl := rfl) (hb := rfl); exact rfl
      apply seq_plain; exact do_pick_t rfl rfl; exact rfl
      apply seq_plain; exact do_move rfl; exact rfl
      apply seq_passed (hd := rfl) (hl := rfl) (hb := rfl); exact rfl
      apply seq_passed (hd := rfl) (hl := rfl) (hb := rfl); exact rfl
      apply seq_passed (hd := rfl) (hl := rfl) (hb := rfl); exact rfl
      apply seq_passed (hd := rfl) (hl := rfl) (hb := rfl); exact rfl
      apply seq_plain; exact do_pick_t rfl rfl; exact rfl
      apply seq_plain; exact do_move rfl; exact rfl
      apply seq_passed (hd := rfl) (hl := rfl) (hb := rfl); exact rfl
      apply seq_passed (hd := rfl) (hl := rfl) (hb := rfl); exact rfl
      apply seq_passed (hd := rfl) (hl := rfl) (hb := rfl); exact rfl
      apply seq_passed (hd := rfl) (hl := rfl) (hb := rfl); exact rfl
      apply seq_plain; exact do_pick_t rfl rfl; exact rfl
      apply seq_plain; exact do_move rfl; exact rfl
      apply seq_passed (hd := rfl) (hl := rfl) (hb := rfl); exact rfl
      apply seq_passed (hd := rfl) (hl := rfl) (hb := rfl); exact rfl
      apply seq_passed (hd := rfl) (hl := rfl) (hb := rfl); exact rfl
      apply seq_passed (hd := rfl) (hl := rfl) (hb := rfl); exact rfl
      apply seq_plain; exact do_pick_t rfl rfl; exact rfl
      apply seq_plain; exact do_move rfl; exact rfl
      apply seq_passed (hd := rfl) (hl := rfl) (hb := rfl); exact rfl
      apply seq_passed (hd := rfl) (hl := rfl) (hb := rfl); exact rfl
      apply seq_passed (hd := rfl) (hl := rfl) (hb := rfl); exact rfl
      apply seq_passed (hd := rfl) (hl := rfl) (hb := rfl); exact rfl
      apply seq_plain; exact do_pick_t rfl rfl; exact rfl
      apply seq_plain; exact do_move rfl; exact rfl
      apply seq_passed (hd := rfl) (hl := rfl) (hb := rfl); exact rfl
      apply seq_passed (hd := rfl) (hl := rfl) (hb := rfl); exact rfl
      apply seq_passed (hd := rfl) (hl := rfl) (hb := rfl); exact rfl
      apply seq_passed (hd := rfl) (hl := rfl) (hb := rfl); exact rfl
      apply seq_passed (hd := rfl) (hl := rfl) (hb := rfl); exact rfl
      apply seq_passed (hd := rfl) (hl := rfl) (hb := rfl); exact rfl
      apply seq_plain; exact do_pick_t rfl rfl; exact rfl
      apply seq_nil
      exact jx_of (true, _) ⟨fun h => (by cases h), f0, f1⟩ (by repeat (first | exact sub_nil | apply sub_cons rfl)) rfl
    have u2 : (!shortP9 l) = false := u2
    apply seq_guard (hd := rfl) (hl := rfl); exact do_move rfl; exact rfl
    apply seq_gcall (hg := rfl) (hl := rfl) (ht := rfl); exact cO _; exact rfl
    have f0 := getApp (m := lstL 3 po l) f0
    have f1 := getApp (m := lstL 3 po l) f1
    skip
    apply seq_gcall (hg := rfl) (hl := rfl) (ht := rfl); exact cR _; exact rfl
    apply seq_guard (hd := rfl) (hl := rfl); exact do_binInt rfl rfl rfl trivial; exact rfl
    apply seq_plain; exact do_pick_f rfl rfl; exact rfl
    apply seq_plain; exact do_move rfl; exact rfl
    refine seq_gsplit rfl rfl (fun u3 => ?_) (fun u3 => ?_)
    · apply seq_passed (hd := rfl) (hl := rfl) (hb := rfl); exact rfl
      apply seq_passed (hd := rfl) (hl := rfl) (hb := rfl); exact rfl
      apply seq_passed (hd := rfl) (hl := rfl) (hb := rfl); exact rfl
      apply seq_passed (hd := rfl) (hl := rfl) (hb := rfl); exact rfl
      apply seq_plain; exact do_pick_t rfl rfl; exact rfl
      apply seq_plain; exact do_move rfl; exact rfl
      apply seq_passed (hd := rfl) (hl := rfl) (hb := rfl); exact rfl
      apply seq_passed (hd := rfl) (hl := rfl) (hb := rfl); exact rfl
      apply seq_passed (hd := rfl) (hl := rfl) (hb := rfl); exact rfl
      apply seq_passed (hd := rfl) (hl := rfl) (hb := rfl); exact rfl
      apply seq_plain; exact do_pick_t rfl rfl; exact rfl
      apply seq_plain; exact do_move rfl; exact rfl
      apply seq_passed (hd := rfl) (hl := rfl) (hb := rfl); exact rfl
      apply seq_passed (hd := rfl) (hl := rfl) (hb := rfl); exact rfl
      apply seq_passed (hd := rfl) (hl := rfl) (hb := rfl); exact rfl
      apply seq_passed (hd := rfl) (hl := rfl) (hb := rfl); exact rfl
      apply seq_plain; exact do_pick_t rfl rfl; exact rfl
      apply seq_plain; exact do_move rfl; exact rfl
      apply seq_passed (hd := rfl) (hl := rfl) (hb := rfl); exact rfl
      apply seq_passed (hd := rfl) (hl := rfl) (hb := rfl); exact rfl
      apply seq_passed (hd := rfl) (hl := rfl) (hb := rfl); exact rfl
      apply seq_passed (hd := rfl) (hl := rfl) (hb := rfl); exact rfl
      apply seq_plain; exact do_pick_t rfl rfl; exact rfl
      apply seq_plain; exact do_move rfl; exact rfl
      apply seq_passed (hd := rfl) (hl := rfl) (hb := rfl); exact rfl
      apply seq_passed (hd := rfl) (hl := rfl) (hb := rfl); exact rfl
      apply seq_passed (hd := rfl) (hl := rfl) (hb := rfl); exact rfl
      apply seq_passed (hd := rfl) (hl := rfl) (hb := rfl); exact rfl
      apply seq_plain; exact do_pick_t rfl rfl; exact rfl
      apply seq_plain; exact do_move rfl; exact rfl
      apply seq_passed (hd := rfl) (hl := rfl) (hb := rfl); exact rfl
      apply seq_passed (hd := rfl) (hl := rfl) (hb := rfl); exact rfl
      apply seq_passed (hd := rfl) (hl := rfl) (hb := rfl); exact rfl
      apply seq_passed (hd := rfl) (hl := rfl) (hb := rfl); exact rfl
      apply seq_passed (hd := rfl) (hl := rfl) (hb := rfl); exact rfl
      apply seq_passed (hd := rfl) (hl := rfl) (hb := rfl); exact rfl
      apply seq_plain; exact do_pick_t rfl rfl; exact rfl
      apply seq_nil
      exact jx_of (true, _) ⟨fun h => (by cases h), f0, f1⟩ (by repeat (first | exact sub_nil | apply sub_cons rfl)) rfl
    have u3 : (possE l != 0) = false := u3
    apply seq_guard (hd := rfl) (hl := rfl); exact do_fieldAddr rfl rfl; exact rfl
    apply seq_guard (hd := rfl) (hl := rfl); exact do_load rfl (by exact ext_get_new (by assumption)) rfl (by exact rfl); exact rfl
    apply seq_guard (hd := rfl) (hl := rfl); exact do_lenS rfl rfl rfl; exact rfl
    apply seq_guard (hd := rfl) (hl := rfl); exact do_binInt rfl rfl rfl trivial; exact rfl
    apply seq_plain; exact do_pick_f rfl rfl; exact rfl
    apply seq_plain; exact do_move rfl; exact rfl
    refine seq_gsplit rfl rfl (fun u4 => ?_) (fun u4 => ?_)
    · apply seq_passed (hd := rfl) (hl := rfl) (hb := rfl); exact rfl
      apply seq_passed (hd := rfl) (hl := rfl) (hb := rfl); exact rfl
      apply seq_passed (hd := rfl) (hl := rfl) (hb := rfl); exact rfl
      apply seq_passed (hd := rfl) (hl := rfl) (hb := rfl); exact rfl
      apply seq_plain; exact do_pick_t rfl rfl; exact rfl
      apply seq_plain; exact do_move rfl; exact rfl
      apply seq_passed (hd := rfl) (hl := rfl) (hb := rfl); exact rfl
      apply seq_passed (hd := rfl) (hl := rfl) (hb := rfl); exact rfl
      apply seq_passed (hd := rfl) (hl := rfl) (hb := rfl); exact rfl
      apply seq_passed (hd := rfl) (hl := rfl) (hb := rfl); exact rfl
      apply seq_plain; exact do_pick_t rfl rfl; exact rfl
      apply seq_plain; exact do_move rfl; exact rfl
      apply seq_passed (hd := rfl) (hl := rfl) (hb := rfl); exact rfl
      apply seq_passed (hd := rfl) (hl := rfl) (hb := rfl); exact rfl
      apply seq_passed (hd := rfl) (hl := rfl) (hb := rfl); exact rfl
      apply seq_passed (hd := rfl) (hl := rfl) (hb := rfl); exact rfl
      apply seq_plain; exact do_pick_t rfl rfl; exact rfl
      apply seq_plain; exact do_move rfl; exact rfl
      apply seq_passed (hd := rfl) (hl := rfl) (hb := rfl); exact rfl
      apply seq_passed (hd := rfl) (hl := rfl) (hb := rfl); exact rfl
      apply seq_passed (hd := rfl) (hl := rfl) (hb := rfl); exact rfl
      apply seq_passed (hd := rfl) (hl := rfl) (hb := rfl); exact rfl
      apply seq_plain; exact do_pick_t rfl rfl; exact rfl
      apply seq_plain; exact do_move rfl; exact rfl
      apply seq_passed (hd := rfl) (hl := rfl) (hb := rfl); exact rfl
      apply seq_passed (hd := rfl) (hl := rfl) (hb := rfl); exact rfl
      apply seq_passed (hd := rfl) (hl := rfl) (hb := rfl); exact rfl
      apply seq_passed (hd := rfl) (hl := rfl) (hb := rfl); exact rfl
      apply seq_passed (hd := rfl) (hl := rfl) (hb := rfl); exact rfl
      apply seq_passed (hd := rfl) (hl := rfl) (hb := rfl); exact rfl
      apply seq_plain; exact do_pick_t rfl rfl; exact rfl
      apply seq_nil
      exact jx_of (true, _) ⟨fun h => (by cases h), f0, f1⟩ (by repeat (first | exact sub_nil | apply sub_cons rfl)) rfl
    have u4 : decide ((r.length : Int) > 100) = false := u4
    apply seq_guard (hd := rfl) (hl := rfl); exact do_load rfl (by exact ext_get_new (by assumption)) rfl (by exact rfl); exact rfl
    apply seq_gcall (hg := rfl) (hl := rfl) (ht := rfl); exact cQ _; exact rfl
    have f0 := getApp (m := lstL 3 ra r) f0
    have f1 := getApp (m := lstL 3 ra r) f1
    skip
    apply seq_gcall (hg := rfl) (hl := rfl) (ht := rfl); exact cC _; exact rfl
    apply seq_guard (hd := rfl) (hl := rfl); exact do_binInt rfl rfl rfl trivial; exact rfl
    apply seq_plain; exact do_pick_f rfl rfl; exact rfl
    apply seq_plain; exact do_move rfl; exact rfl
    refine seq_gsplit rfl rfl (fun u5 => ?_) (fun u5 => ?_)
    · apply seq_passed (hd := rfl) (hl := rfl) (hb := rfl); exact rfl
      apply seq_passed (hd := rfl) (hl := rfl) (hb := rfl); exact rfl
      apply seq_passed (hd := rfl) (hl := rfl) (hb := rfl); exact rfl
      apply seq_passed (hd := rfl) (hl := rfl) (hb := rfl); exact rfl
      apply seq_plain; exact do_pick_t rfl rfl; exact rfl
      apply seq_plain; exact do_move rfl; exact rfl
      apply seq_passed (hd := rfl) (hl := rfl) (hb := rfl); exact rfl
      apply seq_passed (hd := rfl) (hl := rfl) (hb := rfl); exact rfl
      apply seq_passed (hd := rfl) (hl := rfl) (hb := rfl); exact rfl
      apply seq_passed (hd := rfl) (hl := rfl) (hb := rfl); exact rfl
      apply seq_plain; exact do_pick_t rfl rfl; exact rfl
      apply seq_plain; exact do_move rfl; exact rfl
      apply seq_passed (hd := rfl) (hl := rfl) (hb := rfl); exact rfl
      apply seq_passed (hd := rfl) (hl := rfl) (hb := rfl); exact rfl
      apply seq_passed (hd := rfl) (hl := rfl) (hb := rfl); exact rfl
      apply seq_passed (hd := rfl) (hl := rfl) (hb := rfl); exact rfl
      apply seq_plain; exact do_pick_t rfl rfl; exact rfl
      apply seq_plain; exact do_move rfl; exact rfl
      apply seq_passed (hd := rfl) (hl := rfl) (hb := rfl); exact rfl
      apply seq_passed (hd := rfl) (hl := rfl) (hb := rfl); exact rfl
      apply seq_passed (hd := rfl) (hl := rfl) (hb := rfl); exact rfl
      apply seq_passed (hd := rfl) (hl := rfl) (hb := rfl); exact rfl
      apply seq_passed (hd := rfl) (hl := rfl) (hb := rfl); exact rfl
      apply seq_passed (hd := rfl) (hl := rfl) (hb := rfl); exact rfl
      apply seq_plain; exact do_pick_t rfl rfl; exact rfl
      apply seq_nil
      exact jx_of (true, _) ⟨fun h => (by cases h), f0, f1⟩ (by repeat (first | exact sub_nil | apply sub_cons rfl)) rfl
    have u5 : (chargeE r dep note != 0) = false := u5
    apply seq_guard (hd := rfl) (hl := rfl); exact do_fieldAddr rfl rfl; exact rfl
    apply seq_guard (hd := rfl) (hl := rfl); exact do_load rfl (by exact ext_get_new (by assumption)) rfl (by exact rfl); exact rfl
    apply seq_guard (hd := rfl) (hl := rfl); exact do_lenStr rfl rfl rfl; exact rfl
    apply seq_guard (hd := rfl) (hl := rfl); exact do_binInt rfl rfl rfl trivial; exact rfl
    apply seq_plain; exact do_pick_f rfl rfl; exact rfl
    apply seq_plain; exact do_move rfl; exact rfl
    refine seq_gsplit rfl rfl (fun u6 => ?_) (fun u6 => ?_)
    · apply seq_passed (hd := rfl) (hl := rfl) (hb := rfl); exact rfl
      apply seq_passed (hd := rfl) (hl := rfl) (hb := rfl); exact rfl
      apply seq_passed (hd := rfl) (hl := rfl) (hb := rfl); exact rfl
      apply seq_passed (hd := rfl) (hl := rfl) (hb := rfl); exact rfl
      apply seq_plain; exact do_pick_t rfl rfl; exact rfl
      apply seq_plain; exact do_move rfl; exact rfl
      apply seq_passed (hd := rfl) (hl := rfl) (hb := rfl); exact rfl
      apply seq_passed (hd := rfl) (hl := rfl) (hb := rfl); exact rfl
      apply seq_passed (hd := rfl) (hl := rfl) (hb := rfl); exact rfl
      apply seq_passed (hd := rfl) (hl := rfl) (hb := rfl); exact rfl
      apply seq_plain; exact do_pick_t rfl rfl; exact rfl
      apply seq_plain; exact do_move rfl; exact rfl
      apply seq_passed (hd := rfl) (hl := rfl) (hb := rfl); exact rfl
      apply seq_passed (hd := rfl) (hl := rfl) (hb := rfl); exact rfl
      apply seq_passed (hd := rfl) (hl := rfl) (hb := rfl); exact rfl
      apply seq_passed (hd := rfl) (hl := rfl) (hb := rfl); exact rfl
      apply seq_passed (hd := rfl) (hl := rfl) (hb := rfl); exact rfl
      apply seq_passed (hd := rfl) (hl := rfl) (hb := rfl); exact rfl
      apply seq_plain; exact do_pick_t rfl rfl; exact rfl
      apply seq_nil
      exact jx_of (true, _) ⟨fun h => (by cases h), f0, f1⟩ (by repeat (first | exact sub_nil | apply sub_cons rfl)) rfl
    have u6 : decide ((b.name.size : Int) > 40) = false := u6
    apply seq_guard (hd := rfl) (hl := rfl); exact do_fieldAddr rfl rfl; exact rfl
    apply seq_guard (hd := rfl) (hl := rfl); exact do_load rfl (by exact ext_get_new (by assumption)) rfl (by exact rfl); exact rfl
    apply seq_guard (hd := rfl) (hl := rfl); exact do_lenStr rfl rfl rfl; exact rfl
    apply seq_guard (hd := rfl) (hl := rfl); exact do_binInt rfl rfl rfl trivial; exact rfl
    apply seq_plain; exact do_pick_f rfl rfl; exact rfl
    apply seq_plain; exact do_move rfl; exact rfl
    refine seq_gsplit rfl rfl (fun u7 => ?_) (fun u7 => ?_)
    · apply seq_passed (hd := rfl) (hl := rfl) (hb := rfl); exact rfl
      apply seq_passed (hd := rfl) (hl := rfl) (hb := rfl); exact rfl
      apply seq_passed (hd := rfl) (hl := rfl) (hb := rfl); exact rfl
      apply seq_passed (hd := rfl) (hl := rfl) (hb := rfl); exact rfl
      apply seq_plain; exact do_pick_t rfl rfl; exact rfl
      apply seq_plain; exact do_move rfl; exact rfl
      apply seq_passed (hd := rfl) (hl := rfl) (hb := rfl); exact rfl
      apply seq_passed (hd := rfl) (hl := rfl) (hb := rfl); exact rfl
      apply seq_passed (hd := rfl) (hl := rfl) (hb := rfl); exact rfl
      apply seq_passed (hd := rfl) (hl := rfl) (hb := rfl); exact rfl
      apply seq_passed (hd := rfl) (hl := rfl) (hb := rfl); exact rfl
      apply seq_passed (hd := rfl) (hl := rfl) (hb := rfl); exact rfl
      apply seq_plain; exact do_pick_t rfl rfl; exact rfl
      apply seq_nil
      exact jx_of (true, _) ⟨fun h => (by cases h), f0, f1⟩ (by repeat (first | exact sub_nil | apply sub_cons rfl)) rfl
    have u7 : decide ((b.kind.size : Int) > 40) = false := u7
    apply seq_guard (hd := rfl) (hl := rfl); exact do_load rfl (by exact ext_get_new (by assumption)) rfl (by exact rfl); exact rfl
    refine seq_gnewR rfl rfl (do_buildSlice rfl rfl rfl rfl rfl rfl rfl) rfl ?_
    have f0 := getApp (m := [some (.cells ([b].flatMap bk) 4 false false)]) f0
    have f1 := getApp (m := [some (.cells ([b].flatMap bk) 4 false false)]) f1
    apply seq_gcall (hg := rfl) (hl := rfl) (ht := rfl); exact cB _; exact rfl
    apply seq_guard (hd := rfl) (hl := rfl); exact do_binInt rfl rfl rfl trivial; exact rfl
    apply seq_plain; exact do_pick_f rfl rfl; exact rfl
    apply seq_plain; exact do_move rfl; exact rfl
    rw [books_one]
    skip
    refine seq_gsplit rfl rfl (fun u8 => ?_) (fun u8 => ?_)
    · apply seq_passed (hd := rfl) (hl := rfl) (hb := rfl); exact rfl
      apply seq_passed (hd := rfl) (hl := rfl) (hb := rfl); exact rfl
      apply seq_passed (hd := rfl) (hl := rfl) (hb := rfl); exact rfl
      apply seq_passed (hd := rfl) (hl := rfl) (hb := rfl); exact rfl
      apply seq_passed (hd := rfl) (hl := rfl) (hb := rfl); exact rfl
      apply seq_passed (hd := rfl) (hl := rfl) (hb := rfl); exact rfl
      apply seq_plain; exact do_pick_t rfl rfl; exact rfl
      apply seq_nil
      exact jx_of (true, _) ⟨fun h => (by cases h), f0, f1⟩ (by repeat (first | exact sub_nil | apply sub_cons rfl)) rfl
    have u8 : (bookE b != 0) = false := u8
    have u9 : bookE b = 0 := by simpa using u8
    obtain ⟨h1, h2, h3, h4⟩ := book_ok u9
    apply seq_guard (hd := rfl) (hl := rfl); exact do_fieldAddr rfl rfl; exact rfl
    apply seq_guard (hd := rfl) (hl := rfl); exact do_load rfl (by exact ext_get_new (by assumption)) rfl (by exact rfl); exact rfl
    apply seq_guard (hd := rfl) (hl := rfl); exact do_fieldAddr rfl rfl; exact rfl
    apply seq_guard (hd := rfl) (hl := rfl); exact do_load rfl (by exact ext_get_new (by assumption)) rfl (by exact rfl); exact rfl
    apply seq_guard (hd := rfl) (hl := rfl); exact do_sub rfl rfl (by omega); exact rfl
    apply seq_guard (hd := rfl) (hl := rfl); exact do_binInt rfl rfl rfl trivial; exact rfl
    apply seq_plain; exact do_pick_f rfl rfl; exact rfl
    apply seq_nil
    refine jx_of (decide (b.to - b.frm > 2000), _) ⟨fun h => ?_, f0, f1⟩ (by repeat (first | exact sub_nil | apply sub_cons rfl)) rfl
    have h : ¬ b.to - b.frm > 2000 := of_decide_eq_false h
    have u1 : ¬ (l.length : Int) > 20 := of_decide_eq_false u1
    have u4 : ¬ (r.length : Int) > 100 := of_decide_eq_false u4
    exact ⟨by omega, by simpa using u3, by omega, by simpa using u5, u9, by omega⟩
  obtain ⟨Z, L⟩ := a
  obtain ⟨hin, f0, f1⟩ := ha
  simp only at hin f0 f1 ⊢
  refine ct_cond rfl (fun u0 => ?_) (fun u0 => ?_)
  · apply ct_seq
    apply ct_region
    apply seq_call (ht := rfl); exact haw _ (ext_Ext hc); exact rfl
    apply seq_plain; exact do_assign rfl; exact rfl
    apply seq_nil
    apply ct_ret
    exact fin_flat hc rfl rfl ⟨rfl, rfl⟩
  have hin := hin u0
  clear cO cS cR cQ cC cB u0 haw
  obtain ⟨p, q0, q1, pv, pe, bx, bb, cz, d0, d1, n0, n1, g0, g1, g2⟩ := hin.all
  have hF := trial_facts hin.pos hin.len
  have cT := trial_c (c := c) (hs.ext (ext_Ext hc (lo := H.fresh) (L := L))) hlow (by omega)
  have hT : trlV l = trialL l := if_pos hin.pos
  rw [lstH_ext, ext_fresh, hin.pos, hT] at cT
  obtain ⟨T, hTe⟩ : ∃ T, T = trialL l := ⟨_, rfl⟩
  rw [← hTe] at cT hF
  clear hT hTe
  apply ct_skip
  apply ct_seq
  apply ct_region
  apply seq_plain; exact do_move rfl; exact rfl
  apply seq_call (ht := rfl); exact cT; exact rfl
  clear cT
  have hv : Lst H (L ++ lstL 2 ab T) 2 ab 0 (lstV (nb H L.length) T) T := lst_ofL (Nat.zero_le _)
  obtain ⟨p1, e1, s1⟩ := hv.slAll ab_len
  rw [e1]
  have s1 := s1 _ H.fresh (.refl _)
  have f0 := getApp (m := lstL 2 ab T) f0
  have f1 := getApp (m := lstL 2 ab T) f1
  clear hv e1
  obtain ⟨b0, hb0⟩ : ∃ b0, b0 = nb H 0 := ⟨_, rfl⟩
  obtain ⟨b1, hb1⟩ : ∃ b1, b1 = nb H 1 := ⟨_, rfl⟩
  have f0 := ext_get_new (H := H) (lo := H.fresh) f0
  have f1 := ext_get_new (H := H) (lo := H.fresh) f1
  rw [← hb0] at f0 ⊢
  rw [← hb1] at f1 ⊢
  clear hb0 hb1
  refine seqL_to (l' := [(0, .slice q l.length c), (4, .pointer (some ⟨b0, 0, none⟩)), (5, .pointer (some ⟨b1, 0, none⟩)), (92, .tuple ⟨[.slice p1 T.length T.length, I 0]⟩)]) (by repeat (first | exact sub_nil | apply sub_cons rfl)) ext_base (by simp) ?_
  obtain ⟨h, hh⟩ : ∃ h, h = ext H H.fresh (L ++ lstL 2 ab T) := ⟨_, rfl⟩
  have hc' : Closed h := by rw [hh]; exact ext_closed hc
  have hE : Ext H h := by rw [hh]; exact ext_Ext hc
  rw [← hh] at s1 f0 f1 ⊢
  clear hh
  have hs := hs.ext hE
  have hr := hr.ext hE
  refine seq_anyLo fun lo => ?_
  have cA := fun M a => balance_c (H := ext h lo M) (a := a) (hs.ext (ext_Ext hc')) hlow (by omega)
  apply seq_plain; exact do_move rfl; exact rfl
  apply seq_plain; exact do_extract rfl rfl; exact rfl
  apply seq_plain; exact do_extract rfl rfl; exact rfl
  apply seq_plain; exact do_assign rfl; exact rfl
  apply seq_plain; exact do_assign rfl; exact rfl
  apply seq_nil
  apply ct_seq
  apply ct_seq
  apply ct_region
  apply seq_plain; exact do_move rfl; exact rfl
  apply seq_plain; exact do_binInt rfl rfl rfl trivial; exact rfl
  apply seq_nil
  refine ct_cond_f rfl rfl ?_
  apply ct_skip
  apply ct_seq
  apply ct_region
  apply seq_plain; exact do_assign rfl; exact rfl
  apply seq_nil
  apply ct_seq
  apply ct_seq
  apply ct_region
  apply seq_plain; exact do_move rfl; exact rfl
  apply seq_plain; exact do_lenS rfl rfl rfl; exact rfl
  apply seq_plain; exact do_move rfl; exact rfl
  apply seq_nil
  apply ct_block
  apply ct_loop
  refine lt_meas (α := Nat × List (Option ABlk)) (fun a => [(0, .slice q l.length c), (4, .pointer (some ⟨b0, 0, none⟩)), (5, .pointer (some ⟨b1, 0, none⟩)), (7, .slice p1 T.length T.length), (9, I ((T.take a.1).map (·.2)).sum), (97, .slice p1 T.length T.length), (98, I T.length), (99, I a.1)]) (fun a => ext h lo a.2) (fun a => a.1 ≤ T.length) (fun a => T.length - a.1) (fun a hx ih => ?_) (0, []) (Nat.zero_le _) (by repeat (first | exact sub_nil | apply sub_cons rfl)) (.refl _)
  obtain ⟨i, M⟩ := a
  simp only at hx ih ⊢
  have ih' := fun i' M' a1 a2 => ih (i', M') a1 a2
  simp only at ih'
  clear ih
  apply ct_seq
  apply ct_region
  apply seq_plain; exact do_binInt rfl rfl rfl trivial; exact rfl
  apply seq_nil
  apply ct_seq
  refine ct_cond rfl (fun h1 => ?_) (fun h1 => ?_)
  · simp only [decide_eq_true_eq, Int.ofNat_lt] at h1
    obtain ⟨bT, oT, csT, zT, stT, roT, rfl, hgT, hwT⟩ := s1.out (by intro e; rw [e] at h1; simp at h1)
    have hlen := hF.len
    have ha := hF.at_ i h1
    have hb := hF.bd i (by omega)
    have ho := hF.one i h1
    have st : ((T.take (i + 1)).map (·.2)).sum = ((T.take i).map (·.2)).sum + T[i].2 := by
      rw [take_snoc h1, List.map_append, List.sum_append]; simp
    apply ct_skip
    apply ct_seq
    apply ct_block
    apply ct_seq
    apply ct_region
    apply seq_plain; exact do_move rfl; exact rfl
    apply seq_plain; exact do_indexAddrS rfl rfl rfl (by exact idx_nat (by omega)); exact rfl
    apply seq_plain; exact do_load rfl (by exact ext_get_old (by assumption) (by assumption)) rfl (by exact pt_sl (by assumption) (by omega)); exact rfl
    apply seq_newP; exact do_alloc rfl rfl; exact rfl
    apply seq_plain; exact do_assign rfl; exact rfl
    apply seq_putC (hc := by assumption); rotate_left; exact do_store rfl rfl (by exact ext_get_new List.getElem?_concat_length) rfl rfl (nb_own _); rotate_left; exact (by simp)
    apply ct_seq
    apply ct_region
    apply seq_plain; exact do_move rfl; exact rfl
    apply seq_plain; exact do_fieldAddr rfl rfl; exact rfl
    apply seq_plain; exact do_load rfl (by exact ext_get_new getSetLast) rfl (by exact rfl); exact rfl
    rw [set_mid rfl]
    skip
    apply seq_call (ht := rfl); exact cA _ _; exact rfl
    rw [ha.1, ha.2]
    obtain ⟨M1, hM1⟩ : ∃ M1, M1 = M ++ [some (.cells (ab T[i]) 0 false false)] := ⟨_, rfl⟩
    have fM : M1[M.length]? = some (some (.cells (ab T[i]) 0 false false)) := by rw [hM1]; exact List.getElem?_concat_length
    rw [← hM1]
    clear hM1 cA
    apply seq_plain; exact do_move rfl; exact rfl
    apply seq_plain; exact do_extract rfl rfl; exact rfl
    apply seq_plain; exact do_extract rfl rfl; exact rfl
    apply seq_plain; exact do_assign rfl; exact rfl
    apply seq_plain; exact do_assign rfl; exact rfl
    apply seq_nil
    apply ct_seq
    apply ct_seq
    apply ct_draw (by assumption); decide +kernel
    apply sd_plain (hfree := rfl); intro _; exact do_move rfl; exact rfl
    apply sd_plain (hfree := rfl); intro _; exact do_binInt rfl rfl rfl trivial; exact rfl
    apply sd_plain (hfree := rfl); intro _; exact do_move rfl; exact rfl
    apply sd_guard (hfree := rfl) (hg := rfl) (hl := rfl); intro _; exact do_move rfl; exact rfl
    apply sd_guard (hfree := rfl) (hg := rfl) (hl := rfl); intro _; exact do_fieldAddr rfl rfl; exact rfl
    apply sd_guardL (hfree := rfl) (hg := rfl) (hl := rfl); exact do_load rfl (by exact ext_get_new (getApp (by assumption))) rfl (by exact rfl); exact rfl
    apply sd_guard (hfree := rfl) (hg := rfl) (hl := rfl); intro _; exact do_binInt rfl rfl rfl trivial; exact rfl
    apply sd_plain (hfree := rfl); intro _; exact do_pick_f rfl rfl; exact rfl
    apply sd_plain (hfree := rfl); intro _; exact do_move rfl; exact rfl
    simp only [bne_self_eq_false]
    apply sd_guard (hfree := rfl) (hg := rfl) (hl := rfl); intro _; exact do_move rfl; exact rfl
    apply sd_guard (hfree := rfl) (hg := rfl) (hl := rfl); intro _; exact do_binInt rfl rfl rfl trivial; exact rfl
    apply sd_guard (hfree := rfl) (hg := rfl) (hl := rfl); intro _; exact do_move rfl; exact rfl
    refine sd_J [(0, .slice q l.length c), (4, .pointer (some ⟨b0, 0, none⟩)), (5, .pointer (some ⟨b1, 0, none⟩)), (7, .slice (some ⟨bT, oT, none⟩) T.length T.length), (9, I ((T.take i).map (·.2)).sum), (12, I T[i].2), (97, .slice (some ⟨bT, oT, none⟩) T.length T.length), (98, I T.length), (99, I i), (133, .bool false)] (ds := []) (h := ext h lo M1) ?_ ?_
    · refine sd_gsplit rfl rfl (fun w1 => ?_) (fun w1 => ?_)
      · have w1 : (i : Int) > 0 := of_decide_eq_true w1
        have hi0 : 0 ≤ (i : Int) - 1 ∧ (i : Int) - 1 < T.length := by omega
        have e9 : ((i : Int) - 1).toNat = i - 1 := by omega
        have ac := hF.asc (i - 1) (by omega)
        have e8 : i - 1 + 1 = i := by omega
        simp only [e8] at ac
        apply sd_guard (hfree := rfl) (hg := rfl) (hl := rfl); intro _; exact do_fieldAddr rfl rfl; exact rfl
        apply sd_guardL (hfree := rfl) (hg := rfl) (hl := rfl); exact do_load rfl (by exact ext_get_new (getApp (by assumption))) rfl (by exact rfl); exact rfl
        apply sd_guard (hfree := rfl) (hg := rfl) (hl := rfl); intro _; exact do_move rfl; exact rfl
        apply sd_guard (hfree := rfl) (hg := rfl) (hl := rfl); intro _; exact do_move rfl; exact rfl
        apply sd_guard (hfree := rfl) (hg := rfl) (hl := rfl); intro _; exact do_predN rfl rfl (by omega) (by omega); exact rfl
        apply sd_guard (hfree := rfl) (hg := rfl) (hl := rfl); intro _; exact do_indexAddrS rfl rfl rfl (by exact idx_nat (by omega)); exact rfl
        apply sd_guard (hfree := rfl) (hg := rfl) (hl := rfl); intro _; exact do_fieldAddr rfl rfl; exact rfl
        apply sd_guardL (hfree := rfl) (hg := rfl) (hl := rfl); exact do_load rfl (by exact ext_get_old (by assumption) (by assumption)) rfl (by exact pt_sl1 (by assumption) (by omega) (Nat.le_of_ble_eq_true rfl) rfl); exact rfl
        apply sd_guard (hfree := rfl) (hg := rfl) (hl := rfl); intro _; exact do_binStr rfl rfl rfl; exact rfl
        apply sd_guard (hfree := rfl) (hg := rfl) (hl := rfl); intro _; exact do_pick_t rfl rfl; exact rfl
        apply sd_plain (hfree := rfl); intro _; exact do_pick_f rfl rfl; exact rfl
        apply sd_nil
        simp only [e9]
        rw [ac]
        skip
        skip
        simp only [List.map_nil, List.append_nil]
        exact jp_of (by repeat (first | exact sub_nil | apply sub_cons rfl))
      · apply sd_passed (hg := rfl) (hl := rfl) (hb := rfl); exact rfl
        apply sd_passed (hg := rfl) (hl := rfl) (hb := rfl); exact rfl
        apply sd_passed (hg := rfl) (hl := rfl) (hb := rfl); exact rfl
        apply sd_passed (hg := rfl) (hl := rfl) (hb := rfl); exact rfl
        apply sd_passed (hg := rfl) (hl := rfl) (hb := rfl); exact rfl
        apply sd_passed (hg := rfl) (hl := rfl) (hb := rfl); exact rfl
        apply sd_passed (hg := rfl) (hl := rfl) (hb := rfl); exact rfl
        apply sd_passed (hg := rfl) (hl := rfl) (hb := rfl); exact rfl
        apply sd_passed (hg := rfl) (hl := rfl) (hb := rfl); exact rfl
        apply sd_guard (hfree := rfl) (hg := rfl) (hl := rfl); intro _; exact do_pick_f rfl rfl; exact rfl
        apply sd_plain (hfree := rfl); intro _; exact do_pick_f rfl rfl; exact rfl
        apply sd_nil
        simp only [List.map_nil, List.append_nil]
        exact jp_of (by repeat (first | exact sub_nil | apply sub_cons rfl))
    refine ct_cond_f rfl rfl ?_
    apply ct_skip
    apply ct_region
    apply seq_plain; exact do_move rfl; exact rfl
    apply seq_plain; exact do_move rfl; exact rfl
    apply seq_plain; exact do_add rfl rfl (by omega); exact rfl
    apply seq_plain; exact do_assign rfl; exact rfl
    apply seq_nil
    apply ct_region
    apply seq_plain; exact do_succ rfl (by omega); exact rfl
    apply seq_plain; exact do_move rfl; exact rfl
    apply seq_nil
    rw [← st]
    skip
    skip
    exact lt_to (by repeat (first | exact sub_nil | apply sub_cons rfl)) (.refl _) (ih' (i + 1) M1 (by omega) (by omega))
  have h1 : i = T.length := by simp at h1; omega
  subst h1
  rw [List.take_length, hF.zero]
  clear ih' hF s1 cA
  obtain ⟨fN, hf⟩ : ∃ fN : Nat, b.frm = fN := ⟨b.frm.toNat, by omega⟩
  obtain ⟨bn, bd, bf, bt⟩ := b
  simp only at hf
  subst hf
  simp only at pv pe g0 g1 g2 cz
  obtain ⟨z1, z2⟩ := cz ((fN / 2 : Nat) : Int) (by omega) (by omega)
  have cBi := fun M => bill_c (H := ext h lo M) (dep := dep) (note := note) (b := ⟨bn, bd, fN, bt⟩) (hr.ext (ext_Ext hc')) hlow2 (by omega)
  simp only [lstH_ext, ext_fresh, bx, bb] at cBi
  have cPr := fun M => Price_c (H := ext h lo M) (a := fN) (b := bt) (hr.ext (ext_Ext hc')) hlow2 (by omega)
  simp only [pv, pe] at cPr
  have cCa := fun M => cancel_c (H := ext h lo M) (dep := dep) (note := note) (b := ⟨bn, bd, fN, bt⟩) (quarter := ((fN / 2 : Nat) : Int)) (hr.ext (ext_Ext hc')) hlow2 (by omega)
  simp only [lstH_ext, ext_fresh, z1, z2] at cCa
  obtain ⟨BL, hBL⟩ : ∃ BL, BL = billL p dep := ⟨_, rfl⟩
  obtain ⟨CL, hCL⟩ : ∃ CL, CL = cancL dep note ⟨bn, bd, fN, bt⟩ ((fN / 2 : Nat) : Int) := ⟨_, rfl⟩
  have pB : possE BL = 0 := by rw [hBL]; exact bill_pos q0 q1 d0 d1
  have pC : possE CL = 0 := by rw [hCL]; exact canc_pos d0 d1
  obtain ⟨y0, y2, y1⟩ := bill_bal (p := p) (dep := dep) q0 d0
  obtain ⟨x1, x03, x0⟩ := canc_bal (dep := dep) (note := note) (quarter := ((fN / 2 : Nat) : Int)) (b := ⟨bn, bd, fN, bt⟩) d0
  simp only at x0
  rw [← hBL] at y0 y1 y2 cBi
  rw [← hCL] at x0 x1 x03 cCa
  have lBL := (poss_ok pB).1
  have lCL := (poss_ok pC).1
  clear cz pv pe bx bb z1 z2 hBL hCL hin
  apply ct_exit
  apply exit_eq; exact rfl
  apply ct_seq
  apply ct_region
  apply seq_plain; exact do_load rfl (by exact ext_get_old (by assumption) (by assumption)) rfl (by exact rfl); exact rfl
  apply seq_plain; exact do_load rfl (by exact ext_get_old (by assumption) (by assumption)) rfl (by exact rfl); exact rfl
  apply seq_call (ht := rfl); exact cBi _; exact rfl
  clear cBi
  apply seq_plain; exact do_move rfl; exact rfl
  apply seq_plain; exact do_extract rfl rfl; exact rfl
  apply seq_plain; exact do_extract rfl rfl; exact rfl
  apply seq_plain; exact do_assign rfl; exact rfl
  apply seq_plain; exact do_assign rfl; exact rfl
  apply seq_nil
  apply ct_seq
  apply ct_region
  apply seq_plain; exact do_fieldAddr rfl rfl; exact rfl
  apply seq_plain; exact do_load rfl (by exact ext_get_old (by assumption) (by assumption)) rfl (by exact rfl); exact rfl
  apply seq_plain; exact do_fieldAddr rfl rfl; exact rfl
  apply seq_plain; exact do_load rfl (by exact ext_get_old (by assumption) (by assumption)) rfl (by exact rfl); exact rfl
  apply seq_plain; exact do_fieldAddr rfl rfl; exact rfl
  apply seq_plain; exact do_load rfl (by exact ext_get_old (by assumption) (by assumption)) rfl (by exact rfl); exact rfl
  apply seq_call (ht := rfl); exact cPr _; exact rfl
  clear cPr
  apply seq_plain; exact do_move rfl; exact rfl
  apply seq_plain; exact do_extract rfl rfl; exact rfl
  apply seq_plain; exact do_extract rfl rfl; exact rfl
  apply seq_plain; exact do_assign rfl; exact rfl
  apply seq_plain; exact do_assign rfl; exact rfl
  apply seq_nil
  apply ct_seq
  apply ct_region
  apply seq_plain; exact do_load rfl (by exact ext_get_old (by assumption) (by assumption)) rfl (by exact rfl); exact rfl
  apply seq_plain; exact do_load rfl (by exact ext_get_old (by assumption) (by assumption)) rfl (by exact rfl); exact rfl
  apply seq_plain; exact do_fieldAddr rfl rfl; exact rfl
  apply seq_plain; exact do_load rfl (by exact ext_get_old (by assumption) (by assumption)) rfl (by exact rfl); exact rfl
  apply seq_plain; exact do_quo rfl rfl (by omega) (by decide); exact rfl
  apply seq_call (ht := rfl); exact cCa _; exact rfl
  clear cCa
  have sB : SlAt (ext h lo (M ++ lstL 3 po BL ++ lstL 3 po CL)) 3 po (lstP (nb h M.length) BL) BL := (lst_slAt (H := h) (lo := lo) (L := M) (m := 3) (f := po) (l := BL) po_len).ext (ext_more hc')
  have sC : SlAt (ext h lo (M ++ lstL 3 po BL ++ lstL 3 po CL)) 3 po (lstP (nb h (M ++ lstL 3 po BL).length) CL) CL := lst_slAt po_len
  obtain ⟨uB, huB⟩ : ∃ uB, uB = lstP (nb h M.length) BL := ⟨_, rfl⟩
  obtain ⟨uC, huC⟩ : ∃ uC, uC = lstP (nb h (M ++ lstL 3 po BL).length) CL := ⟨_, rfl⟩
  have lB : LowS uB BL.length BL.length := by rw [huB]; exact lowS_lst
  have lC : LowS uC CL.length CL.length := by rw [huC]; exact lowS_lst
  rw [← huB] at sB
  rw [← huC] at sC
  have f0 := ext_get_old (lo := lo) (L := M ++ lstL 3 po BL ++ lstL 3 po CL) hc' f0
  have f1 := ext_get_old (lo := lo) (L := M ++ lstL 3 po BL ++ lstL 3 po CL) hc' f1
  refine seqL_to (l' := [(4, .pointer (some ⟨b0, 0, none⟩)), (5, .pointer (some ⟨b1, 0, none⟩)), (9, I 0), (14, .slice uB BL.length BL.length), (15, I 0), (16, I p), (17, I 0), (160, .tuple ⟨[.slice uC CL.length CL.length, I 0]⟩)]) (by rw [huB, huC]; repeat (first | exact sub_nil | apply sub_cons rfl)) ext_base (by simp) ?_
  obtain ⟨h2, hh2⟩ : ∃ h2, h2 = ext h lo (M ++ lstL 3 po BL ++ lstL 3 po CL) := ⟨_, rfl⟩
  have hE2 : Ext H h2 := by rw [hh2]; exact hE.trans (ext_Ext hc')
  have hc2 : Closed h2 := by rw [hh2]; exact ext_closed hc'
  rw [← hh2] at sB sC f0 f1 ⊢
  clear hh2 huB huC hs hr hE
  refine seq_anyLo fun lo => ?_
  have oB : ∀ X, Ret Tryz.prog 64 [.slice uB BL.length BL.length] (ext h2 lo X) (lstV (nb h2 X.length) BL) (ext h2 lo (X ++ lstL 3 po BL)) := fun X => by
    have := ownPo_c (c := BL.length) (sB.ext (ext_Ext hc2 (lo := lo) (L := X))) (by omega)
    rwa [lstH_ext, ext_fresh] at this
  have oC : ∀ X, Ret Tryz.prog 64 [.slice uC CL.length CL.length] (ext h2 lo X) (lstV (nb h2 X.length) CL) (ext h2 lo (X ++ lstL 3 po CL)) := fun X => by
    have := ownPo_c (c := CL.length) (sC.ext (ext_Ext hc2 (lo := lo) (L := X))) (by omega)
    rwa [lstH_ext, ext_fresh] at this
  have rB : ∀ X, Ret Tryz.prog 81 [lstV (nb h2 X.length) BL] (ext h2 lo (X ++ lstL 3 po BL)) (I 0) (ext h2 lo (X ++ lstL 3 po BL)) := fun X => by
    have := refPostings_c (c := BL.length) (lst_slAt (H := h2) (lo := lo) (L := X) (m := 3) (f := po) (l := BL) po_len) (by omega)
    rw [pB] at this
    exact this
  have rC : ∀ X, Ret Tryz.prog 81 [lstV (nb h2 X.length) CL] (ext h2 lo (X ++ lstL 3 po CL)) (I 0) (ext h2 lo (X ++ lstL 3 po CL)) := fun X => by
    have := refPostings_c (c := CL.length) (lst_slAt (H := h2) (lo := lo) (L := X) (m := 3) (f := po) (l := CL) po_len) (by omega)
    rw [pC] at this
    exact this
  have kB : ∀ i, i < 4 → ∀ X, Ret Tryz.prog 83 [.slice uB BL.length BL.length, .string (acc i)] (ext h2 lo X) (.tuple ⟨[I (balI BL (acc i)), I 0]⟩) (ext h2 lo X) := fun i hi X => by
    have := balance_c (H := ext h2 lo X) (a := acc i) (sB.ext (ext_Ext hc2)) lB (by omega)
    rwa [(balV_acc pB hi).1, (balV_acc pB hi).2] at this
  have kC : ∀ i, i < 4 → ∀ X, Ret Tryz.prog 83 [.slice uC CL.length CL.length, .string (acc i)] (ext h2 lo X) (.tuple ⟨[I (balI CL (acc i)), I 0]⟩) (ext h2 lo X) := fun i hi X => by
    have := balance_c (H := ext h2 lo X) (a := acc i) (sC.ext (ext_Ext hc2)) lC (by omega)
    rwa [(balV_acc pC hi).1, (balV_acc pC hi).2] at this
  have k0 := kB 0 (by omega)
  have k2 := kB 2 (by omega)
  have k1 := kB 1 (by omega)
  have j0 := kC 0 (by omega)
  have j3 := kC 3 (by omega)
  have j1 := kC 1 (by omega)
  obtain ⟨V, hV⟩ : ∃ V, V = balI CL (acc 0) := ⟨_, rfl⟩
  have e3 : balI CL (acc 3) = -V := by rw [← hV] at x03; omega
  rw [← hV] at x0
  rw [y0] at k0
  rw [y2] at k2
  rw [y1] at k1
  rw [← hV] at j0
  rw [e3] at j3
  rw [x1] at j1
  have hVb : -1000000000 ≤ V ∧ V ≤ 1000000000 := by rw [x0]; split <;> omega
  clear kB kC hV x03 x1 e3 y0 y1 y2 sB sC lB lC pB pC
  apply seq_plain; exact do_move rfl; exact rfl
  apply seq_plain; exact do_extract rfl rfl; exact rfl
  apply seq_plain; exact do_extract rfl rfl; exact rfl
  apply seq_plain; exact do_assign rfl; exact rfl
  apply seq_plain; exact do_assign rfl; exact rfl
  apply seq_nil
  apply ct_seq
  apply ct_seq
  apply ct_region
  apply seq_plain; exact do_move rfl; exact rfl
  apply seq_plain; exact do_binInt rfl rfl rfl trivial; exact rfl
  apply seq_plain; exact do_move rfl; exact rfl
  apply seq_guard (hd := rfl) (hl := rfl); exact do_move rfl; exact rfl
  apply seq_guard (hd := rfl) (hl := rfl); exact do_move rfl; exact rfl
  apply seq_guard (hd := rfl) (hl := rfl); exact do_add rfl rfl (by omega); exact rfl
  apply seq_guard (hd := rfl) (hl := rfl); exact do_move rfl; exact rfl
  apply seq_guard (hd := rfl) (hl := rfl); exact do_add rfl rfl (by omega); exact rfl
  apply seq_guard (hd := rfl) (hl := rfl); exact do_binInt rfl rfl rfl trivial; exact rfl
  apply seq_plain; exact do_pick_f rfl rfl; exact rfl
  apply seq_plain; exact do_move rfl; exact rfl
  apply seq_guard (hd := rfl) (hl := rfl); exact do_move rfl; exact rfl
  apply seq_gcall (hg := rfl) (hl := rfl) (ht := rfl); exact oB _; exact rfl
  skip
  apply seq_gcall (hg := rfl) (hl := rfl) (ht := rfl); exact rB _; exact rfl
  apply seq_guard (hd := rfl) (hl := rfl); exact do_move rfl; exact rfl
  apply seq_gcall (hg := rfl) (hl := rfl) (ht := rfl); exact oC _; exact rfl
  skip
  apply seq_gcall (hg := rfl) (hl := rfl) (ht := rfl); exact rC _; exact rfl
  apply seq_guard (hd := rfl) (hl := rfl); exact do_add rfl rfl (by omega); exact rfl
  apply seq_guard (hd := rfl) (hl := rfl); exact do_binInt rfl rfl rfl trivial; exact rfl
  apply seq_plain; exact do_pick_f rfl rfl; exact rfl
  apply seq_nil
  refine ct_cond_f rfl rfl ?_
  clear oB oC rB rC
  apply ct_skip
  apply ct_seq
  apply ct_region
  apply seq_plain; exact do_move rfl; exact rfl
  apply seq_call (ht := rfl); exact k0 _; exact rfl
  apply seq_plain; exact do_move rfl; exact rfl
  apply seq_plain; exact do_extract rfl rfl; exact rfl
  apply seq_plain; exact do_extract rfl rfl; exact rfl
  apply seq_plain; exact do_assign rfl; exact rfl
  apply seq_plain; exact do_assign rfl; exact rfl
  apply seq_nil
  apply ct_seq
  apply ct_region
  apply seq_plain; exact do_move rfl; exact rfl
  apply seq_call (ht := rfl); exact k2 _; exact rfl
  apply seq_plain; exact do_move rfl; exact rfl
  apply seq_plain; exact do_extract rfl rfl; exact rfl
  apply seq_plain; exact do_extract rfl rfl; exact rfl
  apply seq_plain; exact do_assign rfl; exact rfl
  apply seq_plain; exact do_assign rfl; exact rfl
  apply seq_nil
  apply ct_seq
  apply ct_region
  apply seq_plain; exact do_move rfl; exact rfl
  apply seq_call (ht := rfl); exact k1 _; exact rfl
  apply seq_plain; exact do_move rfl; exact rfl
  apply seq_plain; exact do_extract rfl rfl; exact rfl
  apply seq_plain; exact do_extract rfl rfl; exact rfl
  apply seq_plain; exact do_assign rfl; exact rfl
  apply seq_plain; exact do_assign rfl; exact rfl
  apply seq_nil
  apply ct_seq
  apply ct_region
  apply seq_plain; exact do_move rfl; exact rfl
  apply seq_call (ht := rfl); exact j0 _; exact rfl
  apply seq_plain; exact do_move rfl; exact rfl
  apply seq_plain; exact do_extract rfl rfl; exact rfl
  apply seq_plain; exact do_extract rfl rfl; exact rfl
  apply seq_plain; exact do_assign rfl; exact rfl
  apply seq_plain; exact do_assign rfl; exact rfl
  apply seq_nil
  apply ct_seq
  apply ct_region
  apply seq_plain; exact do_move rfl; exact rfl
  apply seq_call (ht := rfl); exact j3 _; exact rfl
  apply seq_plain; exact do_move rfl; exact rfl
  apply seq_plain; exact do_extract rfl rfl; exact rfl
  apply seq_plain; exact do_extract rfl rfl; exact rfl
  apply seq_plain; exact do_assign rfl; exact rfl
  apply seq_plain; exact do_assign rfl; exact rfl
  apply seq_nil
  apply ct_seq
  apply ct_region
  apply seq_plain; exact do_move rfl; exact rfl
  apply seq_call (ht := rfl); exact j1 _; exact rfl
  clear k0 k1 k2 j0 j1 j3
  apply seq_plain; exact do_move rfl; exact rfl
  apply seq_plain; exact do_extract rfl rfl; exact rfl
  apply seq_plain; exact do_extract rfl rfl; exact rfl
  apply seq_plain; exact do_assign rfl; exact rfl
  apply seq_plain; exact do_assign rfl; exact rfl
  apply seq_nil
  apply ct_seq
  apply ct_seq
  apply ct_region
  apply seq_plain; exact do_move rfl; exact rfl
  apply seq_plain; exact do_move rfl; exact rfl
  apply seq_plain; exact do_add rfl rfl (by omega); exact rfl
  apply seq_plain; exact do_move rfl; exact rfl
  apply seq_plain; exact do_add rfl rfl (by omega); exact rfl
  apply seq_plain; exact do_move rfl; exact rfl
  apply seq_plain; exact do_add rfl rfl (by omega); exact rfl
  apply seq_plain; exact do_move rfl; exact rfl
  apply seq_plain; exact do_add rfl rfl (by omega); exact rfl
  apply seq_plain; exact do_move rfl; exact rfl
  apply seq_plain; exact do_add rfl rfl (by omega); exact rfl
  apply seq_plain; exact do_binInt rfl rfl rfl trivial; exact rfl
  apply seq_plain; exact do_move rfl; exact rfl
  apply seq_guard (hd := rfl) (hl := rfl); exact do_move rfl; exact rfl
  apply seq_guard (hd := rfl) (hl := rfl); exact do_move rfl; exact rfl
  apply seq_guard (hd := rfl) (hl := rfl); exact do_binInt rfl rfl rfl trivial; exact rfl
  apply seq_plain; exact do_pick_f rfl rfl; exact rfl
  apply seq_plain; exact do_move rfl; exact rfl
  clear lBL lCL hlow2 hm
  simp only [bne_self_eq_false]
  refine seqL_to (l' := [(230, .bool false), (4, .pointer (some ⟨b0, 0, none⟩)), (5, .pointer (some ⟨b1, 0, none⟩)), (16, I p), (22, I (-p)), (24, I 0), (26, I V), (28, I (-V)), (30, I 0)]) (by repeat (first | exact sub_nil | apply sub_cons rfl)) (.refl _) (by simp) ?_
  apply seq_guard (hd := rfl) (hl := rfl); exact do_move rfl; exact rfl
  apply seq_guard (hd := rfl) (hl := rfl); exact do_move rfl; exact rfl
  apply seq_guard (hd := rfl) (hl := rfl); exact do_neg rfl (by omega); exact rfl
  apply seq_guard (hd := rfl) (hl := rfl); exact do_binInt rfl rfl rfl trivial; exact rfl
  apply seq_plain; exact do_pick_f rfl rfl; exact rfl
  apply seq_plain; exact do_move rfl; exact rfl
  simp only [bne_self_eq_false]
  apply seq_guard (hd := rfl) (hl := rfl); exact do_move rfl; exact rfl
  apply seq_guard (hd := rfl) (hl := rfl); exact do_binInt rfl rfl rfl trivial; exact rfl
  apply seq_plain; exact do_pick_f rfl rfl; exact rfl
  apply seq_plain; exact do_move rfl; exact rfl
  apply seq_guard (hd := rfl) (hl := rfl); exact do_move rfl; exact rfl
  apply seq_guard (hd := rfl) (hl := rfl); exact do_binInt rfl rfl rfl trivial; exact rfl
  apply seq_plain; exact do_pick_f rfl rfl; exact rfl
  apply seq_plain; exact do_move rfl; exact rfl
  apply seq_guard (hd := rfl) (hl := rfl); exact do_move rfl; exact rfl
  apply seq_guard (hd := rfl) (hl := rfl); exact do_move rfl; exact rfl
  apply seq_guard (hd := rfl) (hl := rfl); exact do_neg rfl (by omega); exact rfl
  apply seq_guard (hd := rfl) (hl := rfl); exact do_binInt rfl rfl rfl trivial; exact rfl
  apply seq_plain; exact do_pick_f rfl rfl; exact rfl
  apply seq_nil
  have eV : (V != - -V) = false := by rw [Int.neg_neg]; exact bne_self_eq_false V
  rw [eV]
  skip
  skip
  refine ct_cond_f rfl rfl ?_
  clear eV
  apply ct_skip
  apply ct_seq
  apply ct_seq
  apply ct_region
  apply seq_plain; exact do_fieldAddr rfl rfl; exact rfl
  apply seq_plain; exact do_load rfl (by exact ext_get_old (by assumption) (by assumption)) rfl (by exact rfl); exact rfl
  apply seq_plain; exact do_quo rfl rfl (by omega) (by decide); exact rfl
  apply seq_plain; exact do_fieldAddr rfl rfl; exact rfl
  apply seq_plain; exact do_load rfl (by exact ext_get_old (by assumption) (by assumption)) rfl (by exact rfl); exact rfl
  apply seq_plain; exact do_binInt rfl rfl rfl trivial; exact rfl
  apply seq_plain; exact do_fieldAddr rfl rfl; exact rfl
  apply seq_plain; exact do_load rfl (by exact ext_get_old (by assumption) (by assumption)) rfl (by exact rfl); exact rfl
  apply seq_plain; exact do_binInt rfl rfl rfl trivial; exact rfl
  apply seq_nil
  have gf : (fN : Int) ≤ 99999 := by
    have g1' : (fN : Int) < bt := g1
    have g2' : bt ≤ 99999 := g2
    omega
  have ew : IntKind.i64.wrap (((fN / 2 : Nat) : Int) + note) = ((fN / 2 : Nat) : Int) + note := wrap_i64 (by omega)
  refine ct_cond rfl (fun w => ?_) (fun w => ?_)
  · have w : IntKind.i64.wrap (((fN / 2 : Nat) : Int) + note) ≤ fN := of_decide_eq_true w
    rw [ew] at w
    rw [if_pos w] at x0
    subst x0
    apply ct_seq
    apply ct_region
    apply seq_plain; exact do_move rfl; exact rfl
    apply seq_plain; exact do_binInt rfl rfl rfl trivial; exact rfl
    apply seq_plain; exact do_assign rfl; exact rfl
    apply seq_nil
    apply ct_ret
    exact fin_flatB hc hc2 hE2 rfl rfl ⟨rfl, rfl⟩
  · have w : ¬ IntKind.i64.wrap (((fN / 2 : Nat) : Int) + note) ≤ fN := of_decide_eq_false w
    rw [ew] at w
    rw [if_neg w] at x0
    subst x0
    clear ew gf
    apply ct_skip
    apply ct_seq
    apply ct_region
    apply seq_plain; exact do_move rfl; exact rfl
    apply seq_plain; exact do_fieldAddr rfl rfl; exact rfl
    apply seq_plain; exact do_load rfl (by exact ext_get_old (by assumption) (by assumption)) rfl (by exact rfl); exact rfl
    apply seq_plain; exact do_binInt rfl rfl rfl trivial; exact rfl
    apply seq_plain; exact do_assign rfl; exact rfl
    apply seq_nil
    apply ct_ret
    refine fin_flatB hc hc2 hE2 rfl rfl ⟨?_, rfl⟩
    show Value.bool (V == V) = .bool true
    rw [beq_self_eq_true]
end Go.Proofs.YtfegloadbajbhaaGreatDoor
