/- Contracts: room for a booking. -/
import Derived.Test.YtfjihdlpohljbaaGreatSvA
noncomputable section
namespace Go.Proofs.YtfjihdlpohljbaaGreat
open Go Go.Den
set_option maxRecDepth 100000
theorem indexZ_c {H : AHeap} {q : Option Addr} {c g : Nat} {caps : List Value} {l : List Int} {p : Int → Bool} (hs : SlAt H 1 i1 q l) (hn : l.length < 1000000000000)
    (hp : ∀ x ∈ l, ∀ H', Ext H H' → Ret Tryz.prog g (I x :: caps) H' (.bool (p x)) H') :
    Ret Tryz.prog 56 [.slice q l.length c, .func (.func g) #[] ⟨caps⟩] H (I (idxOf p l 0)) H := by
  refine fn_start Tryz.func56 rfl rfl rfl fun hc => ?_
  apply ct_seq
  apply ct_region
  apply seq_plain; exact do_assign rfl; exact rfl
  apply seq_nil
  iterate 2 (apply ct_seq)
  apply ct_region
  apply seq_plain; exact do_move rfl; exact rfl
  apply seq_plain; exact do_lenS rfl rfl rfl; exact rfl
  apply seq_plain; exact do_move rfl; exact rfl
  apply seq_nil
  apply ct_block
  apply ct_loop
  refine lt_up (fun i => [(0, .slice q l.length c), (1, .func (.func g) #[] ⟨caps⟩), (7, I l.length), (8, I i)]) (fun i => ∀ j (hj : j < l.length), j < i → p l[j] = false) l.length (fun i hi hJ ih => ?_) 0 (by omega) (by intros; omega) (by repeat (first | exact sub_nil | apply sub_cons rfl))
  apply ct_seq
  apply ct_region
  apply seq_plain; exact do_binInt rfl rfl rfl trivial; exact rfl
  apply seq_nil
  apply ct_seq
  refine ct_cond rfl (fun hb => ?_) (fun hb => ?_)
  · simp only [decide_eq_true_eq, Int.ofNat_lt] at hb
    obtain ⟨b, o, cs, z, s, ro, rfl, hg, hw⟩ := hs.out (by intro e; rw [e] at hb; simp at hb)
    apply ct_skip
    apply ct_seq
    apply ct_block
    apply ct_seq
    apply ct_region
    apply seq_plain; exact do_move rfl; exact rfl
    apply seq_plain; exact do_assign rfl; exact rfl
    apply seq_nil
    apply ct_seq
    apply ct_region
    iterate 3 (apply seq_plain; exact do_move rfl; exact rfl)
    apply seq_plain; exact do_indexAddrS rfl rfl rfl (by exact idx_nat (by omega)); exact rfl
    apply seq_plain; exact do_load rfl (by exact ext_get_old (by assumption) (by assumption)) rfl (by exact pt_sl0 (by assumption) (by omega)); exact rfl
    apply seq_call (ht := rfl); exact hp _ (List.getElem_mem hb) _ (ext_Ext hc); exact rfl
    apply seq_nil
    refine ct_cond rfl (fun h2 => ?_) (fun h2 => ?_)
    · apply ct_seq
      apply ct_region
      apply seq_plain; exact do_move rfl; exact rfl
      apply seq_plain; exact do_assign rfl; exact rfl
      apply seq_nil
      apply ct_ret
      refine fin_flat hc rfl rfl ⟨?_, rfl⟩
      rw [idxOf_at hb 0 hJ h2]; simp [packA]
    · apply ct_skip
      apply ct_region
      apply seq_plain; exact do_succ rfl (by omega); exact rfl
      apply seq_plain; exact do_move rfl; exact rfl
      apply seq_nil
      refine lt_sub ?_ (ih (i + 1) (by omega) (by omega) fun j hj hji => ?_)
      · (repeat (first | exact sub_nil | apply sub_cons rfl))
      · rcases Nat.lt_or_ge j i with h | h
        · exact hJ j hj h
        · have : j = i := by omega
          subst this; exact h2
  · simp only [decide_eq_false_iff_not, Int.ofNat_lt] at hb
    apply ct_exit
    apply exit_eq; exact rfl
    apply ct_seq
    apply ct_region
    apply seq_plain; exact do_assign rfl; exact rfl
    apply seq_nil
    apply ct_ret
    refine fin_flat hc rfl rfl ⟨?_, rfl⟩
    rw [idxOf_none 0 fun j hj => hJ j hj (by omega)]; rfl
def fullB (l : List Bk) (b : Bk) (n : Int) (o : Bk) : Bool := decide (o.kind = b.kind) && (decide (b.frm ≤ o.frm) && (decide (o.frm < b.to) && decide ((cntD l b.kind o.frm : Int) ≥ n)))
theorem room1_c {H : AHeap} {p : Option Addr} {d x y z z1 z2 z3 : Nat} {s1 s2 s3 r1 r2 r3 : Bool} {l : List Bk} {b o : Bk} {n : Int} (hp : SlAt H 4 bk p l) (hm : l.length < 1000000000000) (hx : H.get x = some (.cells (bk b) z1 s1 r1)) (hy : H.get y = some (.cells [.slice p l.length d] z2 s2 r2)) (hz : H.get z = some (.cells [I n] z3 s3 r3)) :
    Ret Tryz.prog 93 [.agg ⟨bk o⟩, .pointer (some ⟨x, 0, none⟩), .pointer (some ⟨y, 0, none⟩), .pointer (some ⟨z, 0, none⟩)] H (.bool (fullB l b n o)) H := by
  refine fn_start Tryz.func93 rfl rfl rfl fun hc => ?_
  apply ct_seq
  apply ct_region
  apply seq_newP; exact do_box rfl rfl rfl; exact rfl
  apply seq_plain; exact do_assign rfl; exact rfl
  apply seq_nil
  apply ct_seq
  apply ct_draw (by assumption); decide +kernel
  apply sd_plain (hfree := rfl); intro _; exact do_fieldAddr rfl rfl; exact rfl
  apply sd_look (hfree := rfl); exact do_load rfl (by exact ext_get_new rfl) rfl (by exact rfl); exact rfl
  apply sd_plain (hfree := rfl); intro _; exact do_fieldAddr rfl rfl; exact rfl
  apply sd_look (hfree := rfl); exact do_load rfl (by exact ext_get_old (by assumption) (by assumption)) rfl (by exact rfl); exact rfl
  apply sd_plain (hfree := rfl); intro _; exact do_binStr rfl rfl rfl; exact rfl
  apply sd_plain (hfree := rfl); intro _; exact do_move rfl; exact rfl
  refine sd_gsplit rfl rfl (fun u1 => ?_) (fun u1 => ?_)
  · have u1 : byteL o.kind.data.toList b.kind.data.toList = true := u1
    rw [bytes_eq] at u1
    apply sd_guard (hfree := rfl) (hg := rfl) (hl := rfl); intro _; exact do_fieldAddr rfl rfl; exact rfl
    apply sd_guardL (hfree := rfl) (hg := rfl) (hl := rfl); exact do_load rfl (by exact ext_get_old (by assumption) (by assumption)) rfl (by exact rfl); exact rfl
    apply sd_guard (hfree := rfl) (hg := rfl) (hl := rfl); intro _; exact do_fieldAddr rfl rfl; exact rfl
    apply sd_guardL (hfree := rfl) (hg := rfl) (hl := rfl); exact do_load rfl (by exact ext_get_new rfl) rfl (by exact rfl); exact rfl
    apply sd_guard (hfree := rfl) (hg := rfl) (hl := rfl); intro _; exact do_binInt rfl rfl rfl trivial; exact rfl
    apply sd_plain (hfree := rfl); intro _; exact do_pick_t rfl rfl; exact rfl
    apply sd_plain (hfree := rfl); intro _; exact do_move rfl; exact rfl
    refine sd_gsplit rfl rfl (fun u2 => ?_) (fun u2 => ?_)
    · have u2 : decide (b.frm ≤ o.frm) = true := u2
      apply sd_guard (hfree := rfl) (hg := rfl) (hl := rfl); intro _; exact do_fieldAddr rfl rfl; exact rfl
      apply sd_guardL (hfree := rfl) (hg := rfl) (hl := rfl); exact do_load rfl (by exact ext_get_new rfl) rfl (by exact rfl); exact rfl
      apply sd_guard (hfree := rfl) (hg := rfl) (hl := rfl); intro _; exact do_fieldAddr rfl rfl; exact rfl
      apply sd_guardL (hfree := rfl) (hg := rfl) (hl := rfl); exact do_load rfl (by exact ext_get_old (by assumption) (by assumption)) rfl (by exact rfl); exact rfl
      apply sd_guard (hfree := rfl) (hg := rfl) (hl := rfl); intro _; exact do_binInt rfl rfl rfl trivial; exact rfl
      apply sd_plain (hfree := rfl); intro _; exact do_pick_t rfl rfl; exact rfl
      apply sd_plain (hfree := rfl); intro _; exact do_move rfl; exact rfl
      refine sd_gsplit rfl rfl (fun u3 => ?_) (fun u3 => ?_)
      · have u3 : decide (o.frm < b.to) = true := u3
        apply sd_guardL (hfree := rfl) (hg := rfl) (hl := rfl); exact do_load rfl (by exact ext_get_old (by assumption) (by assumption)) rfl (by exact rfl); exact rfl
        apply sd_guard (hfree := rfl) (hg := rfl) (hl := rfl); intro _; exact do_fieldAddr rfl rfl; exact rfl
        apply sd_guardL (hfree := rfl) (hg := rfl) (hl := rfl); exact do_load rfl (by exact ext_get_old (by assumption) (by assumption)) rfl (by exact rfl); exact rfl
        apply sd_guard (hfree := rfl) (hg := rfl) (hl := rfl); intro _; exact do_fieldAddr rfl rfl; exact rfl
        apply sd_guardL (hfree := rfl) (hg := rfl) (hl := rfl); exact do_load rfl (by exact ext_get_new rfl) rfl (by exact rfl); exact rfl
        apply sd_gcall (hg := rfl) (hl := rfl) (ht := rfl); exact depth_c (hp.ext (ext_Ext hc)) hm; exact rfl
        apply sd_guardL (hfree := rfl) (hg := rfl) (hl := rfl); exact do_load rfl (by exact ext_get_old (by assumption) (by assumption)) rfl (by exact rfl); exact rfl
        apply sd_guard (hfree := rfl) (hg := rfl) (hl := rfl); intro _; exact do_binInt rfl rfl rfl trivial; exact rfl
        apply sd_plain (hfree := rfl); intro _; exact do_pick_t rfl rfl; exact rfl
        apply sd_plain (hfree := rfl); intro _; exact do_assign rfl; exact rfl
        apply sd_nil
        apply ct_ret
        refine fin_flat hc rfl rfl ⟨?_, rfl⟩
        unfold fullB
        rw [u1, u2, u3]; rfl
      · have u3 : decide (o.frm < b.to) = false := u3
        iterate 8 (apply sd_passed (hg := rfl) (hl := rfl) (hb := rfl); exact rfl)
        apply sd_plain (hfree := rfl); intro _; exact do_pick_f rfl rfl; exact rfl
        apply sd_plain (hfree := rfl); intro _; exact do_assign rfl; exact rfl
        apply sd_nil
        apply ct_ret
        refine fin_flat hc rfl rfl ⟨?_, rfl⟩
        unfold fullB
        rw [u1, u2, u3]; rfl
    · have u2 : decide (b.frm ≤ o.frm) = false := u2
      iterate 5 (apply sd_passed (hg := rfl) (hl := rfl) (hb := rfl); exact rfl)
      apply sd_plain (hfree := rfl); intro _; exact do_pick_f rfl rfl; exact rfl
      apply sd_plain (hfree := rfl); intro _; exact do_move rfl; exact rfl
      iterate 8 (apply sd_passed (hg := rfl) (hl := rfl) (hb := rfl); exact rfl)
      apply sd_plain (hfree := rfl); intro _; exact do_pick_f rfl rfl; exact rfl
      apply sd_plain (hfree := rfl); intro _; exact do_assign rfl; exact rfl
      apply sd_nil
      apply ct_ret
      refine fin_flat hc rfl rfl ⟨?_, rfl⟩
      unfold fullB
      rw [u1, u2]; rfl
  · have u1 : byteL o.kind.data.toList b.kind.data.toList = false := u1
    rw [bytes_eq] at u1
    iterate 5 (apply sd_passed (hg := rfl) (hl := rfl) (hb := rfl); exact rfl)
    apply sd_plain (hfree := rfl); intro _; exact do_pick_f rfl rfl; exact rfl
    apply sd_plain (hfree := rfl); intro _; exact do_move rfl; exact rfl
    iterate 5 (apply sd_passed (hg := rfl) (hl := rfl) (hb := rfl); exact rfl)
    apply sd_plain (hfree := rfl); intro _; exact do_pick_f rfl rfl; exact rfl
    apply sd_plain (hfree := rfl); intro _; exact do_move rfl; exact rfl
    iterate 8 (apply sd_passed (hg := rfl) (hl := rfl) (hb := rfl); exact rfl)
    apply sd_plain (hfree := rfl); intro _; exact do_pick_f rfl rfl; exact rfl
    apply sd_plain (hfree := rfl); intro _; exact do_assign rfl; exact rfl
    apply sd_nil
    apply ct_ret
    refine fin_flat hc rfl rfl ⟨?_, rfl⟩
    unfold fullB
    rw [u1]; rfl
theorem room_c {H : AHeap} {q p : Option Addr} {c d : Nat} {t : List Tb} {l : List Bk} {b : Bk} (hs : SlAt H 2 tb q t) (hn : t.length < 1000000000) (hp : SlAt H 4 bk p l) (hm : l.length < 1000000000) :
    Ret Tryz.prog 58 [.slice q t.length c, .slice p l.length d, .agg ⟨bk b⟩] H (.bool (roomB t l b)) H := by
  refine fn_start Tryz.func58 rfl rfl rfl fun hc => ?_
  apply ct_seq
  apply ct_region
  iterate 2 (apply seq_newP; exact do_box rfl rfl rfl; exact rfl)
  apply seq_plain; exact do_assign rfl; exact rfl
  apply seq_nil
  apply ct_seq
  apply ct_region
  apply seq_plain; exact do_move rfl; exact rfl
  apply seq_plain; exact do_fieldAddr rfl rfl; exact rfl
  apply seq_plain; exact do_load rfl (by exact ext_get_new rfl) rfl (by exact rfl); exact rfl
  apply seq_call (ht := rfl); exact count_c (hs.ext (ext_Ext hc)) (by omega); exact rfl
  apply seq_newP; exact do_alloc rfl rfl; exact rfl
  apply seq_putC (hc := by assumption); rotate_left; exact do_store rfl rfl (by exact ext_get_new rfl) rfl rfl (nb_own _); rotate_left; exact Nat.le_of_ble_eq_true rfl
  iterate 2 (apply ct_seq)
  apply ct_draw (by assumption); decide +kernel
  apply sd_look (hfree := rfl); exact do_load rfl (by exact ext_get_new rfl) rfl (by exact rfl); exact rfl
  apply sd_plain (hfree := rfl); intro _; exact do_fieldAddr rfl rfl; exact rfl
  apply sd_look (hfree := rfl); exact do_load rfl (by exact ext_get_new rfl) rfl (by exact rfl); exact rfl
  apply sd_plain (hfree := rfl); intro _; exact do_fieldAddr rfl rfl; exact rfl
  apply sd_look (hfree := rfl); exact do_load rfl (by exact ext_get_new rfl) rfl (by exact rfl); exact rfl
  apply sd_call (ht := rfl); exact depth_c (hp.ext (ext_Ext hc)) (by omega); exact rfl
  apply sd_look (hfree := rfl); exact do_load rfl (by exact ext_get_new rfl) rfl (by exact rfl); exact rfl
  apply sd_plain (hfree := rfl); intro _; exact do_binInt rfl rfl rfl trivial; exact rfl
  apply sd_nil
  refine ct_cond rfl (fun u1 => ?_) (fun u1 => ?_)
  · have u1 : decide ((cntD l b.kind b.frm : Int) ≥ cntK t b.kind) = true := u1
    apply ct_seq
    apply ct_region
    apply seq_plain; exact do_assign rfl; exact rfl
    apply seq_nil
    apply ct_ret
    refine fin_flat hc rfl rfl ⟨?_, rfl⟩
    unfold roomB
    rw [u1]; rfl
  have u1 : decide ((cntD l b.kind b.frm : Int) ≥ cntK t b.kind) = false := u1
  apply ct_skip
  apply ct_seq
  apply ct_region
  apply seq_plain; exact do_load rfl (by exact ext_get_new rfl) rfl (by exact rfl); exact rfl
  apply seq_plain; exact do_makeFunc rfl rfl; exact rfl
  apply seq_call (ht := rfl); exact containsBk_c (p := fullB l b (cntK t b.kind)) (hp.ext (ext_Ext hc)) (by omega) fun o _ H' hE => room1_c (hp.ext ((ext_Ext hc).trans hE)) (by omega) (hE _ _ (ext_get_new rfl)) (hE _ _ (ext_get_new rfl)) (hE _ _ (ext_get_new rfl)); exact rfl
  apply seq_plain; exact do_unOp rfl rfl; exact rfl
  apply seq_plain; exact do_assign rfl; exact rfl
  apply seq_nil
  apply ct_ret
  refine fin_flat hc rfl rfl ⟨?_, rfl⟩
  unfold roomB
  rw [u1]; rfl
theorem serve1_c {H : AHeap} {q p : Option Addr} {c d x y z z1 z2 z3 : Nat} {s1 s2 s3 r1 r2 r3 : Bool} {t : List Tb} {l : List Bk} {w : Rq} {s : Int} (hs : SlAt H 2 tb q t) (hn : t.length < 1000000000) (hp : SlAt H 4 bk p l) (hm : l.length < 1000000000) (hx : H.get x = some (.cells [.slice q t.length c] z1 s1 r1)) (hy : H.get y = some (.cells [.slice p l.length d] z2 s2 r2)) (hz : H.get z = some (.cells (rq w) z3 s3 r3)) (hb : -9223372036854775808 ≤ s + w.len ∧ s + w.len ≤ 9223372036854775807) :
    Ret Tryz.prog 57 [I s, .pointer (some ⟨x, 0, none⟩), .pointer (some ⟨y, 0, none⟩), .pointer (some ⟨z, 0, none⟩)] H (.bool (roomB t l (bkR w s))) H := by
  refine fn_start Tryz.func57 rfl rfl rfl fun hc => ?_
  apply ct_seq
  apply ct_region
  apply seq_plain; exact do_assign rfl; exact rfl
  apply seq_nil
  apply ct_seq
  apply ct_region
  iterate 2 (apply seq_plain; exact do_load rfl (by exact ext_get_old (by assumption) (by assumption)) rfl (by exact rfl); exact rfl)
  apply seq_plain; exact do_fieldAddr rfl rfl; exact rfl
  apply seq_plain; exact do_load rfl (by exact ext_get_old (by assumption) (by assumption)) rfl (by exact rfl); exact rfl
  apply seq_plain; exact do_fieldAddr rfl rfl; exact rfl
  apply seq_plain; exact do_load rfl (by exact ext_get_old (by assumption) (by assumption)) rfl (by exact rfl); exact rfl
  iterate 2 (apply seq_plain; exact do_move rfl; exact rfl)
  apply seq_plain; exact do_fieldAddr rfl rfl; exact rfl
  apply seq_plain; exact do_load rfl (by exact ext_get_old (by assumption) (by assumption)) rfl (by exact rfl); exact rfl
  apply seq_plain; exact do_add rfl rfl (by assumption); exact rfl
  apply seq_plain; exact do_build rfl rfl rfl rfl; exact rfl
  apply seq_call (ht := rfl); exact room_c (b := bkR w s) (hs.ext (ext_Ext hc)) hn (hp.ext (ext_Ext hc)) hm; exact rfl
  apply seq_plain; exact do_assign rfl; exact rfl
  apply seq_nil
  apply ct_ret
  exact fin_flat hc rfl rfl ⟨rfl, rfl⟩
end Go.Proofs.YtfjihdlpohljbaaGreat
