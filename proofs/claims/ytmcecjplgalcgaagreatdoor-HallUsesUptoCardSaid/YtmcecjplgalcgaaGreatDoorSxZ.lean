/- Contracts: the reference's names, divisions that are not too large. -/
import Derived.Test.YtmcecjplgalcgaaGreatDoorPrA
import Derived.Test.YtmcecjplgalcgaaGreatDoorPrL
import Derived.Test.YtmcecjplgalcgaaGreatDoorHaB
noncomputable section
namespace Go.Proofs.YtmcecjplgalcgaaGreatDoor
open Go Go.Den
set_option maxRecDepth 100000
set_option maxHeartbeats 1000000 in
theorem refIsName_c {H : AHeap} {s : ByteArray} : Ret Tryz.prog 88 [.string s] H (.bool (nameB s)) H := by
 refine fn_start Tryz.func88 rfl rfl rfl fun hc => ?_
 apply ct_seq
 apply ct_region
 apply seq_plain; exact do_assign rfl; exact rfl
 apply seq_nil
 iterate 2 (apply ct_seq)
 apply ct_region
 apply seq_plain; exact do_move rfl; exact rfl
 apply seq_plain; exact do_lenStr rfl rfl rfl; exact rfl
 apply seq_plain; exact do_binInt rfl rfl rfl trivial; exact rfl
 apply seq_plain; exact do_move rfl; exact rfl
 refine seq_J [(0, .string s), (13, .bool (!(decide (1 ≤ s.size) && decide (s.size ≤ 24))))] (ds := []) (h := ext H H.fresh []) ?_ ?_
 ·refine seq_gsplit rfl rfl (fun u1 => ?_) (fun u1 => ?_)
  ·have u1 : decide ((s.size : Int) < 1) = true := u1
   have u1 : decide (1 ≤ s.size) = false := decide_eq_false (by have := of_decide_eq_true u1; omega)
   rw [u1]
   iterate 3 (apply seq_passed (hd := rfl) (hl := rfl) (hb := rfl); exact rfl)
   apply seq_plain; exact do_pick_t rfl rfl; exact rfl
   apply seq_nil
   exact jp_of (by repeat (first | exact sub_nil | apply sub_cons rfl))
  ·have u1 : decide ((s.size : Int) < 1) = false := u1
   have u1 : decide (1 ≤ s.size) = true := decide_eq_true (by have := of_decide_eq_false u1; omega)
   have e : (!(decide (1 ≤ s.size) && decide (s.size ≤ 24))) = decide ((s.size : Int) > 24) := by
    rw [u1, Bool.eq_iff_iff]; simp; omega
   rw [e]
   apply seq_guard (hd := rfl) (hl := rfl); exact do_move rfl; exact rfl
   apply seq_guard (hd := rfl) (hl := rfl); exact do_lenStr rfl rfl rfl; exact rfl
   apply seq_guard (hd := rfl) (hl := rfl); exact do_binInt rfl rfl rfl trivial; exact rfl
   apply seq_plain; exact do_pick_f rfl rfl; exact rfl
   apply seq_nil
   exact jp_of (by repeat (first | exact sub_nil | apply sub_cons rfl))
 skip
 refine ct_cond rfl (fun h1 => ?_) (fun h1 => ?_)
 ·have h1 : (!(decide (1 ≤ s.size) && decide (s.size ≤ 24))) = true := h1
  apply ct_seq
  apply ct_region
  apply seq_plain; exact do_assign rfl; exact rfl
  apply seq_nil
  apply ct_ret
  refine fin_flat hc rfl rfl ⟨?_, rfl⟩
  unfold nameB
  rw [Bool.not_eq_true'] at h1
  rw [h1]; rfl
 have h1 : (decide (1 ≤ s.size) && decide (s.size ≤ 24)) = true := by simpa using h1
 have hsz : 1 ≤ s.size ∧ s.size ≤ 24 := by simpa using h1
 apply ct_skip
 iterate 2 (apply ct_seq)
 apply ct_region
 apply seq_plain; exact do_assign rfl; exact rfl
 apply seq_nil
 apply ct_block
 apply ct_loop
 refine lt_up (fun i => [(0, .string s), (3, I i)]) (fun i => ∀ j, j < i → nameC j (byteI s j) = true) s.size (fun i hi hJ ih => ?_) 0 (by omega) (by intros; omega) (by repeat (first | exact sub_nil | apply sub_cons rfl))
 iterate 2 (apply ct_seq)
 apply ct_region
 iterate 2 (apply seq_plain; exact do_move rfl; exact rfl)
 apply seq_plain; exact do_lenStr rfl rfl rfl; exact rfl
 apply seq_plain; exact do_binInt rfl rfl rfl trivial; exact rfl
 apply seq_nil
 refine ct_cond rfl (fun h2 => ?_) (fun h2 => ?_)
 ·simp only [decide_eq_true_eq, Int.ofNat_lt] at h2
  obtain ⟨b, hb1, _, hbi⟩ := byte_at h2
  apply ct_skip
  apply ct_seq
  apply ct_block
  apply ct_seq
  apply ct_region
  iterate 2 (apply seq_plain; exact do_move rfl; exact rfl)
  apply seq_plain; exact do_indexStr rfl rfl rfl (idx_nat (by omega)) hb1; exact rfl
  rw [← hbi]
  obtain ⟨r, hr⟩ : ∃ r : Int, r = byteI s i := ⟨_, rfl⟩
  rw [← hr]
  apply seq_plain; exact do_assign rfl; exact rfl
  apply seq_nil
  apply ct_seq
  apply ct_region
  apply seq_plain; exact do_move rfl; exact rfl
  apply seq_plain; exact do_binInt rfl rfl rfl trivial; exact rfl
  apply seq_plain; exact do_move rfl; exact rfl
  refine seq_J [(0, .string s), (3, I i), (4, .int .u8 r), (5, .bool (alphaI r))] (ds := []) (h := ext H H.fresh []) ?_ ?_
  ·refine seq_gsplit rfl rfl (fun u1 => ?_) (fun u1 => ?_)
   ·have u1 : decide (r ≥ 97) = true := u1
    apply seq_guard (hd := rfl) (hl := rfl); exact do_move rfl; exact rfl
    apply seq_guard (hd := rfl) (hl := rfl); exact do_binInt rfl rfl rfl trivial; exact rfl
    apply seq_plain; exact do_pick_t rfl rfl; exact rfl
    apply seq_plain; exact do_move rfl; exact rfl
    refine seq_gsplit rfl rfl (fun u2 => ?_) (fun u2 => ?_)
    ·have u2 : decide (r ≤ 122) = true := u2
     rw [show alphaI r = true by simp only [alphaI, u1, u2]; rfl]
     iterate 3 (apply seq_passed (hd := rfl) (hl := rfl) (hb := rfl); exact rfl)
     iterate 2 (apply seq_passedU (hd := rfl) (hl := rfl); exact rfl)
     apply seq_passed (hd := rfl) (hl := rfl) (hb := rfl); exact rfl
     apply seq_plain; exact do_pick_t rfl rfl; exact rfl
     apply seq_plain; exact do_assign rfl; exact rfl
     apply seq_nil
     exact jp_of (by repeat (first | exact sub_nil | apply sub_cons rfl))
    ·have u2 : decide (r ≤ 122) = false := u2
     have u3 : decide (r ≤ 90) = false := by simp at u2 ⊢; omega
     have u5 : decide (r ≥ 65) = true := by simp at u1 ⊢; omega
     rw [show alphaI r = false by simp only [alphaI, u1, u2, u3]; simp]
     apply seq_guard (hd := rfl) (hl := rfl); exact do_move rfl; exact rfl
     apply seq_guard (hd := rfl) (hl := rfl); exact do_binInt rfl rfl rfl trivial; exact rfl
     apply seq_guard (hd := rfl) (hl := rfl); exact do_move rfl; exact rfl
     rw [u5]
     apply seq_guard (hd := rfl) (hl := rfl); exact do_move rfl; exact rfl
     apply seq_guard (hd := rfl) (hl := rfl); exact do_binInt rfl rfl rfl trivial; exact rfl
     apply seq_guard (hd := rfl) (hl := rfl); exact do_pick_t rfl rfl; exact rfl
     apply seq_plain; exact do_pick_f rfl rfl; exact rfl
     apply seq_plain; exact do_assign rfl; exact rfl
     apply seq_nil
     rw [u3]
     exact jp_of (by repeat (first | exact sub_nil | apply sub_cons rfl))
   ·have u1 : decide (r ≥ 97) = false := u1
    iterate 2 (apply seq_passed (hd := rfl) (hl := rfl) (hb := rfl); exact rfl)
    apply seq_plain; exact do_pick_f rfl rfl; exact rfl
    apply seq_plain; exact do_move rfl; exact rfl
    apply seq_guard (hd := rfl) (hl := rfl); exact do_move rfl; exact rfl
    apply seq_guard (hd := rfl) (hl := rfl); exact do_binInt rfl rfl rfl trivial; exact rfl
    apply seq_guard (hd := rfl) (hl := rfl); exact do_move rfl; exact rfl
    refine seq_gsplit rfl rfl (fun u5 => ?_) (fun u5 => ?_)
    ·have u5 : decide (r ≥ 65) = true := u5
     rw [show alphaI r = decide (r ≤ 90) by simp only [alphaI, u1, u5]; simp]
     apply seq_guard (hd := rfl) (hl := rfl); exact do_move rfl; exact rfl
     apply seq_guard (hd := rfl) (hl := rfl); exact do_binInt rfl rfl rfl trivial; exact rfl
     apply seq_guard (hd := rfl) (hl := rfl); exact do_pick_t rfl rfl; exact rfl
     apply seq_plain; exact do_pick_f rfl rfl; exact rfl
     apply seq_plain; exact do_assign rfl; exact rfl
     apply seq_nil
     exact jp_of (by repeat (first | exact sub_nil | apply sub_cons rfl))
    ·have u5 : decide (r ≥ 65) = false := u5
     rw [show alphaI r = false by simp only [alphaI, u1, u5]; simp]
     iterate 2 (apply seq_passed (hd := rfl) (hl := rfl) (hb := rfl); exact rfl)
     apply seq_guard (hd := rfl) (hl := rfl); exact do_pick_f rfl rfl; exact rfl
     apply seq_plain; exact do_pick_f rfl rfl; exact rfl
     apply seq_plain; exact do_assign rfl; exact rfl
     apply seq_nil
     exact jp_of (by repeat (first | exact sub_nil | apply sub_cons rfl))
  apply ct_seq
  apply ct_region
  apply seq_plain; exact do_move rfl; exact rfl
  apply seq_plain; exact do_unOp rfl rfl; exact rfl
  apply seq_plain; exact do_move rfl; exact rfl
  refine seq_J [(0, .string s), (3, I i), (55, .bool (!nameC i r))] (ds := []) (h := ext H H.fresh []) ?_ ?_
  ·refine seq_gsplit rfl rfl (fun u1 => ?_) (fun u1 => ?_)
   ·have u1 : alphaI r = false := by simpa using u1
    apply seq_guard (hd := rfl) (hl := rfl); exact do_move rfl; exact rfl
    apply seq_guard (hd := rfl) (hl := rfl); exact do_binInt rfl rfl rfl trivial; exact rfl
    apply seq_guard (hd := rfl) (hl := rfl); exact do_move rfl; exact rfl
    refine seq_gsplit rfl rfl (fun u2 => ?_) (fun u2 => ?_)
    ·have e : nameC i r = false := by
      have u2 : i = 0 := by simpa using u2
      simp [nameC, u1, u2]
     rw [e]
     iterate 3 (apply seq_passed (hd := rfl) (hl := rfl) (hb := rfl); exact rfl)
     iterate 2 (apply seq_passedU (hd := rfl) (hl := rfl); exact rfl)
     iterate 2 (apply seq_passed (hd := rfl) (hl := rfl) (hb := rfl); exact rfl)
     iterate 2 (apply seq_passedU (hd := rfl) (hl := rfl); exact rfl)
     iterate 2 (apply seq_passed (hd := rfl) (hl := rfl) (hb := rfl); exact rfl)
     apply seq_guard (hd := rfl) (hl := rfl); exact do_pick_t rfl rfl; exact rfl
     apply seq_plain; exact do_pick_t rfl rfl; exact rfl
     apply seq_nil
     exact jp_of (by repeat (first | exact sub_nil | apply sub_cons rfl))
    ·have u2 : decide (i ≠ 0) = true := by
      have : i ≠ 0 := by simpa using u2
      exact decide_eq_true this
     have e : nameC i r = ((decide (r ≥ 48) && decide (r ≤ 57)) || r == 95) := by
      unfold nameC
      rw [u1, u2]; simp
     rw [e]
     apply seq_guard (hd := rfl) (hl := rfl); exact do_move rfl; exact rfl
     apply seq_guard (hd := rfl) (hl := rfl); exact do_binInt rfl rfl rfl trivial; exact rfl
     apply seq_guard (hd := rfl) (hl := rfl); exact do_move rfl; exact rfl
     refine seq_gsplit rfl rfl (fun u3 => ?_) (fun u3 => ?_)
     ·have u3 : decide (r ≥ 48) = true := u3
      rw [u3]
      apply seq_guard (hd := rfl) (hl := rfl); exact do_move rfl; exact rfl
      apply seq_guard (hd := rfl) (hl := rfl); exact do_binInt rfl rfl rfl trivial; exact rfl
      apply seq_guard (hd := rfl) (hl := rfl); exact do_pick_t rfl rfl; exact rfl
      apply seq_guard (hd := rfl) (hl := rfl); exact do_move rfl; exact rfl
      refine seq_gsplit rfl rfl (fun u4 => ?_) (fun u4 => ?_)
      ·have u4 : decide (r ≤ 57) = true := u4
       rw [u4]
       iterate 2 (apply seq_passed (hd := rfl) (hl := rfl) (hb := rfl); exact rfl)
       apply seq_guard (hd := rfl) (hl := rfl); exact do_pick_t rfl rfl; exact rfl
       apply seq_guard (hd := rfl) (hl := rfl); exact do_unOp rfl rfl; exact rfl
       apply seq_guard (hd := rfl) (hl := rfl); exact do_pick_f rfl rfl; exact rfl
       apply seq_plain; exact do_pick_t rfl rfl; exact rfl
       apply seq_nil
       exact jp_of (by repeat (first | exact sub_nil | apply sub_cons rfl))
      ·have u4 : decide (r ≤ 57) = false := u4
       rw [u4]
       apply seq_guard (hd := rfl) (hl := rfl); exact do_move rfl; exact rfl
       apply seq_guard (hd := rfl) (hl := rfl); exact do_binInt rfl rfl rfl trivial; exact rfl
       apply seq_guard (hd := rfl) (hl := rfl); exact do_pick_f rfl rfl; exact rfl
       apply seq_guard (hd := rfl) (hl := rfl); exact do_unOp rfl rfl; exact rfl
       apply seq_guard (hd := rfl) (hl := rfl); exact do_pick_f rfl rfl; exact rfl
       apply seq_plain; exact do_pick_t rfl rfl; exact rfl
       apply seq_nil
       exact jp_of (by repeat (first | exact sub_nil | apply sub_cons rfl))
     ·have u3 : decide (r ≥ 48) = false := u3
      rw [u3]
      iterate 2 (apply seq_passed (hd := rfl) (hl := rfl) (hb := rfl); exact rfl)
      apply seq_guard (hd := rfl) (hl := rfl); exact do_pick_f rfl rfl; exact rfl
      iterate 2 (apply seq_guard (hd := rfl) (hl := rfl); exact do_move rfl; exact rfl)
      apply seq_guard (hd := rfl) (hl := rfl); exact do_binInt rfl rfl rfl trivial; exact rfl
      apply seq_guard (hd := rfl) (hl := rfl); exact do_pick_f rfl rfl; exact rfl
      apply seq_guard (hd := rfl) (hl := rfl); exact do_unOp rfl rfl; exact rfl
      apply seq_guard (hd := rfl) (hl := rfl); exact do_pick_f rfl rfl; exact rfl
      apply seq_plain; exact do_pick_t rfl rfl; exact rfl
      apply seq_nil
      exact jp_of (by repeat (first | exact sub_nil | apply sub_cons rfl))
   ·have e : nameC i r = true := by
     have u1 : alphaI r = true := by simpa using u1
     unfold nameC
     rw [u1]; rfl
    rw [e]
    iterate 3 (apply seq_passed (hd := rfl) (hl := rfl) (hb := rfl); exact rfl)
    iterate 11 (apply seq_passedU (hd := rfl) (hl := rfl); exact rfl)
    apply seq_passed (hd := rfl) (hl := rfl) (hb := rfl); exact rfl
    apply seq_plain; exact do_pick_f rfl rfl; exact rfl
    apply seq_nil
    exact jp_of (by repeat (first | exact sub_nil | apply sub_cons rfl))
  skip
  cases hn : nameC i r with
  | false =>
   refine ct_cond_t rfl rfl ?_
   apply ct_seq
   apply ct_region
   apply seq_plain; exact do_assign rfl; exact rfl
   apply seq_nil
   apply ct_ret
   refine fin_flat hc rfl rfl ⟨?_, rfl⟩
   rw [nameB_bad h2 (hr ▸ hn)]; rfl
  | true =>
   refine ct_cond_f rfl rfl ?_
   apply ct_skip
   apply ct_region
   apply seq_plain; exact do_move rfl; exact rfl
   apply seq_plain; exact do_succ rfl (by omega); exact rfl
   apply seq_plain; exact do_assign rfl; exact rfl
   apply seq_nil
   refine lt_sub ?_ (ih (i + 1) (by omega) (by omega) fun j hj => ?_)
   ·(repeat (first | exact sub_nil | apply sub_cons rfl))
   ·by_cases e : j = i
    ·subst e; rw [← hr]; exact hn
    ·exact hJ j (by omega)
 ·simp only [decide_eq_false_iff_not, Int.ofNat_lt] at h2
  apply ct_exit
  apply exit_eq; exact rfl
  apply ct_seq
  apply ct_region
  apply seq_plain; exact do_assign rfl; exact rfl
  apply seq_nil
  apply ct_ret
  refine fin_flat hc rfl rfl ⟨?_, rfl⟩
  rw [nameB_all (fun j hj => hJ j (by omega)), h1]; rfl
end Go.Proofs.YtmcecjplgalcgaaGreatDoor
/- The symbolic layer: several lists that grow beside each other. -/
noncomputable section
namespace Go.Den
def Keeps (L L' : List (Option ABlk)) : Prop := ∀ (k : Nat) y, L[k]? = some (some y) → L'[k]? = some (some y)
theorem Keeps.app {L : List (Option ABlk)} (M : List (Option ABlk)) : Keeps L (L ++ M) := fun _ _ h => getApp h
structure LstI {α : Type} (H : AHeap) (L : List (Option ABlk)) (m : Nat) (f : α → List Value) (K : Nat) (v : Value) (l : List α) : Prop where
 out : (l = [] ∧ v = .slice none 0 0) ∨ (l ≠ [] ∧ v = .slice (some ⟨nb H K, 0, none⟩) l.length l.length ∧ L[K]? = some (some (.cells (l.flatMap f) m true false)))
section
variable {α : Type} {H : AHeap} {lo K k0 m : Nat} {L L' : List (Option ABlk)} {f : α → List Value} {l : List α} {v : Value}
theorem LstI.nil : LstI H L m f K (.slice none 0 0) ([] : List α) := ⟨.inl ⟨rfl, rfl⟩⟩
theorem LstI.lst (h : LstI H L m f K v l) (hk : k0 ≤ K) : Lst H L m f k0 v l := by
 rcases h.out with ⟨e1, e2⟩ | ⟨h1, h2, h3⟩
 ·exact ⟨.inl ⟨e1, e2⟩⟩
 ·exact ⟨.inr ⟨h1, K, hk, h2, h3⟩⟩
theorem LstI.keep (h : LstI H L m f K v l) (hk : l ≠ [] → L'[K]? = L[K]?) : LstI H L' m f K v l := by
 rcases h.out with ⟨e1, e2⟩ | ⟨h1, h2, h3⟩
 ·exact ⟨.inl ⟨e1, e2⟩⟩
 ·exact ⟨.inr ⟨h1, h2, by rw [hk h1]; exact h3⟩⟩
theorem LstI.keeps (h : LstI H L m f K v l) (hk : Keeps L L') : LstI H L' m f K v l := by
 rcases h.out with ⟨e1, e2⟩ | ⟨h1, h2, h3⟩
 ·exact ⟨.inl ⟨e1, e2⟩⟩
 ·exact ⟨.inr ⟨h1, h2, hk _ _ h3⟩⟩
theorem LstI.lt (h : LstI H L m f K v l) (hne : l ≠ []) : K < L.length := by
 rcases h.out with ⟨e1, _⟩ | ⟨_, _, h3⟩
 ·exact absurd e1 hne
 ·exact (List.getElem?_eq_some_iff.1 h3).1
theorem LstI.at_ (h : LstI H L m f K v l) (hne : l ≠ []) : v = .slice (some ⟨nb H K, 0, none⟩) l.length l.length ∧ L[K]? = some (some (.cells (l.flatMap f) m true false)) := by
 rcases h.out with ⟨e1, _⟩ | ⟨_, h2, h3⟩
 ·exact absurd e1 hne
 ·exact ⟨h2, h3⟩
end
section
variable {P : Program} {rd : Option Nat} {nt : Nat} {ops : Array Oper} {l : EL} {ds : List Nat} {K : St → Prop} {i : Nat} {r : List Oper} {o : Oper} {ty : TypeId} {pos : String} {af : Array Edge} {H : AHeap} {lo : Nat} {L : List (Option ABlk)} {α : Type} {f : α → List Value}
theorem seq_growI [PC P] {lst xs : List α} {m k0 d : Nat} {args : Array Operand} {tys : Array TypeId} {st : TypeId} {tr : List TypeId} {v : Value} {b o' c by' z : Nat} {ag k ro : Bool} {e : TypeId} {zs cs : List Value}
  (hc : Closed H) (hv : LstI H L m f k0 v lst) (hf : ∀ x, (f x).length = m) (hone : ∀ x, (f x).all oneCell = true)
  (ha : evs l args.toList = some [v, .slice (some ⟨b, o', none⟩) xs.length c]) (hty : tys.toList = st :: st :: tr)
  (hs : selOf P st = some (m, ag)) (he : (tyOf P st).map (·.und) = some (.slice e)) (hz : zerOf P e = some zs) (hby : (tyOf P e).map (·.bytes) = some by')
  (hb : (ext H lo L).get b = some (.cells cs z k ro)) (hn : sliceIn cs o' (xs.length * m) = some (xs.flatMap f)) (hxs : xs ≠ []) (h1 : (2 * (lst.length + xs.length) + 1000) * by' ≤ 2 ^ 48) (h2 : by' ≠ 0) (h3 : m ≠ 0) (hd : Nat.blt d nt = true)
  (hk : ∀ v' L', LstI H L' m f L.length v' (lst ++ xs) → (∀ j, j < L.length → (lst ≠ [] → j ≠ k0) → L'[j]? = L[j]?) → L'.length = L.length + 1 → SeqL P rd nt ops (o :: r) (i + 1) ⟨ofA ((d, v') :: l), ds, ext H lo L'⟩ K) :
  SeqL P rd nt ops (⟨some d, .call ⟨.builtin .append, args, tys⟩, ty, pos, af, none⟩ :: o :: r) i ⟨ofA l, ds, ext H lo L⟩ K := by
 have hx0 : 0 < xs.length := by cases xs with | nil => exact absurd rfl hxs | cons _ _ => simp
 have hall : (xs.flatMap f).all oneCell = true := by
  rw [List.all_eq_true]
  intro x hx
  obtain ⟨y, _, hy⟩ := List.mem_flatMap.1 hx
  exact List.all_eq_true.1 (hone y) x hy
 rcases hv.out with ⟨rfl, rfl⟩ | ⟨hne, rfl, hL⟩
 ·refine seq_newS (do_append0 ha hty hs he hz hby hb hn (by simpa using h1) h2 h3 hx0) hd (hk _ _ ?_ (fun j hj _ => List.getElem?_append_left hj) (by simp))
  exact ⟨.inr ⟨by simpa using hxs, by simp, by simp⟩⟩
 ·have hlt : k0 < L.length := (List.getElem?_eq_some_iff.1 hL).1
  refine seq_push hc hlt (do_append1 ha hty hs he hz hby hb hn (ext_get_new hL) (len_flat hf lst) (nb_own _) hall h1 h2 h3 hx0) hd (hk _ _ ?_ ?_ (by simp))
  ·refine ⟨.inr ⟨by simp [hne], by simp, ?_⟩⟩
   have e2 : (L.set k0 none).length = L.length := List.length_set
   rw [← e2, List.flatMap_append]
   exact List.getElem?_concat_length
  ·intro j hj hjk
   rw [List.getElem?_append_left (by rw [List.length_set]; exact hj), List.getElem?_set_ne (fun e => hjk hne e.symm)]
end
theorem ct_JE {P : Program} {rd : Option Nat} {nt : Nat} {ds : List Nat} {a b : Code} {s : St} {Qn : St → Prop} {Qe Qe' : Nat → St → Prop} {Qr Qr' : St → Prop} (E : EL) {h : AHeap} (h1 : CT P rd nt a s (JP E ds h) Qe' Qr') (h2 : CT P rd nt b ⟨ofA E, ds, h⟩ Qn Qe Qr) : CT P rd nt a s (fun s' => CT P rd nt b s' Qn Qe Qr) Qe' Qr' :=
 h1.mono (jp_ct h2) (fun _ _ h => h) (fun _ h => h)
theorem ct_JXE {P : Program} {rd : Option Nat} {nt : Nat} {ds : List Nat} {a b : Code} {s : St} {α : Type} {Qn : St → Prop} {Qe Qe' : Nat → St → Prop} {Qr Qr' : St → Prop} (E : α → EL) (hh : α → AHeap) (J : α → Prop) (h1 : CT P rd nt a s (JX E ds hh J) Qe' Qr') (h2 : ∀ a, J a → CT P rd nt b ⟨ofA (E a), ds, hh a⟩ Qn Qe Qr) : CT P rd nt a s (fun s' => CT P rd nt b s' Qn Qe Qr) Qe' Qr' :=
 h1.mono (jx_ct h2) (fun _ _ h => h) (fun _ h => h)
end Go.Den
