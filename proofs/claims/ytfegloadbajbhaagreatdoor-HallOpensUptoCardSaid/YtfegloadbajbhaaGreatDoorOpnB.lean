/- Contracts: openings, as the program has them. -/
import Derived.Test.YtfegloadbajbhaaGreatDoorOpnA
import Derived.Test.YtfegloadbajbhaaGreatDoorDeL
noncomputable section
namespace Go.Den
section
variable {P : Program} {l : EL} {h : AHeap}
/-- an append to a list whose room is known -/
theorem do_append2 {args : Array Operand} {tys : Array TypeId} {st : TypeId} {r : List TypeId} {b o n c m by' z sl b0 : Nat} {ag k ro ro0 : Bool} {e : TypeId} {zs cs new old : List Value} (ha : evs l args.toList = some [.slice (some ⟨b0, 0, none⟩) sl sl, .slice (some ⟨b, o, none⟩) n c]) (hty : tys.toList = st :: st :: r)
    (hs : selOf P st = some (m, ag)) (he : (tyOf P st).map (·.und) = some (.slice e)) (hz : zerOf P e = some zs) (hby : (tyOf P e).map (·.bytes) = some by')
    (hb : h.get b = some (.cells cs z k ro)) (hn : sliceIn cs o (n * m) = some new) (h0 : h.get b0 = some (.cells old m false ro0)) (hl : old.length = sl * m) (h1 : (2 * (sl + n) + 1000) * by' ≤ 2 ^ 48) (h2 : by' ≠ 0) (h3 : m ≠ 0) (h4 : 0 < n) :
    Does P l (.call ⟨.builtin .append, args, tys⟩) h (.slice (some ⟨h.fresh, 0, none⟩) (sl + n) (sl + n)) (h.add (.cells (old ++ new) m true false)) := by
  refine do_builtin ha ?_
  rw [hty]
  obtain ⟨ei, e1, e2⟩ := appendA_of (r := r) (c := c) hs he hz hby hb hn (s := .slice (some ⟨b0, 0, none⟩) sl sl) rfl h1 h2 h3
  simp only [biA, e2, pushA]
  rw [if_neg (by omega)]
  have hold : sliceIn old 0 (sl * m) = some old := by rw [← hl]; exact sliceIn_all
  have hx : exactCap h b0 0 sl = true := by simp [exactCap, h0]
  simp [h0, e1, hold, hx]
end
/-- block K holds a list, its room known or not -/
structure LstX {α : Type} (H : AHeap) (L : List (Option ABlk)) (m : Nat) (f : α → List Value) (K : Nat) (l : List α) : Prop where
  out : ∃ s, L[K]? = some (some (.cells (l.flatMap f) m s false))
section
variable {α : Type} {H : AHeap} {lo K m : Nat} {L L' : List (Option ABlk)} {f : α → List Value} {l : List α}
theorem LstX.app (h : LstX H L m f K l) (M : List (Option ABlk)) : LstX H (L ++ M) m f K l := by
  obtain ⟨s, hs⟩ := h.out
  exact ⟨s, getApp hs⟩
theorem LstX.lt (h : LstX H L m f K l) : K < L.length := by
  obtain ⟨s, hs⟩ := h.out
  exact (List.getElem?_eq_some_iff.1 hs).1
end
section
variable {P : Program} {rd : Option Nat} {nt : Nat} {ops : Array Oper} {l : EL} {ds : List Nat} {K : St → Prop} {i : Nat} {r : List Oper} {o : Oper} {ty : TypeId} {pos : String} {af : Array Edge} {H : AHeap} {lo : Nat} {L : List (Option ABlk)} {α : Type} {f : α → List Value}
/-- a list grows, its room known or not; its block moves to the end, the others stay -/
theorem seq_growX [PC P] {lst xs : List α} {m k0 d : Nat} {args : Array Operand} {tys : Array TypeId} {st : TypeId} {tr : List TypeId} {b o' c by' z : Nat} {ag k ro : Bool} {e : TypeId} {zs cs : List Value}
    (hc : Closed H) (hv : LstX H L m f k0 lst) (hf : ∀ x, (f x).length = m) (hone : ∀ x, (f x).all oneCell = true)
    (ha : evs l args.toList = some [.slice (some ⟨nb H k0, 0, none⟩) lst.length lst.length, .slice (some ⟨b, o', none⟩) xs.length c]) (hty : tys.toList = st :: st :: tr)
    (hs : selOf P st = some (m, ag)) (he : (tyOf P st).map (·.und) = some (.slice e)) (hz : zerOf P e = some zs) (hby : (tyOf P e).map (·.bytes) = some by')
    (hb : (ext H lo L).get b = some (.cells cs z k ro)) (hn : sliceIn cs o' (xs.length * m) = some (xs.flatMap f)) (hxs : xs ≠ []) (h1 : (2 * (lst.length + xs.length) + 1000) * by' ≤ 2 ^ 48) (h2 : by' ≠ 0) (h3 : m ≠ 0) (hd : Nat.blt d nt = true)
    (hk : ∀ L', LstX H L' m f L.length (lst ++ xs) → (∀ j, j < L.length → j ≠ k0 → L'[j]? = L[j]?) → L'.length = L.length + 1 → SeqL P rd nt ops (o :: r) (i + 1) ⟨ofA ((d, .slice (some ⟨nb H L.length, 0, none⟩) (lst ++ xs).length (lst ++ xs).length) :: l), ds, ext H lo L'⟩ K) :
    SeqL P rd nt ops (⟨some d, .call ⟨.builtin .append, args, tys⟩, ty, pos, af, none⟩ :: o :: r) i ⟨ofA l, ds, ext H lo L⟩ K := by
  have hx0 : 0 < xs.length := by cases xs with | nil => exact absurd rfl hxs | cons _ _ => simp
  have hall : (xs.flatMap f).all oneCell = true := by
    rw [List.all_eq_true]
    intro x hx
    obtain ⟨y, _, hy⟩ := List.mem_flatMap.1 hx
    exact List.all_eq_true.1 (hone y) x hy
  obtain ⟨s, hL⟩ := hv.out
  have hlt := hv.lt
  simp only [List.length_append] at hk
  cases s with
  | false =>
    refine seq_newS (do_append2 ha hty hs he hz hby hb hn (ext_get_new hL) (len_flat hf lst) h1 h2 h3 hx0) hd (hk _ ⟨true, by rw [List.flatMap_append]; exact List.getElem?_concat_length⟩ (fun j hj _ => List.getElem?_append_left hj) (by simp))
  | true =>
    refine seq_push hc hlt (do_append1 ha hty hs he hz hby hb hn (ext_get_new hL) (len_flat hf lst) (nb_own _) hall h1 h2 h3 hx0) hd (hk _ ⟨true, ?_⟩ ?_ (by simp))
    · have e2 : (L.set k0 none).length = L.length := List.length_set
      rw [← e2, List.flatMap_append]
      exact List.getElem?_concat_length
    · intro j hj hjk
      rw [List.getElem?_append_left (by rw [List.length_set]; exact hj), List.getElem?_set_ne (fun e => hjk e.symm)]
end
end Go.Den
namespace Go.Proofs.YtfegloadbajbhaaGreatDoor
open Go Go.Den
set_option maxRecDepth 100000
/-- the error of Openings -/
def opnE (t : List Tb) (l : List Bk) (k : ByteArray) : Int := firstL [bothE t l, nameE [k], whenL ((cntK t k : Int) == 0) 10]
def opnX (t : List Tb) (l : List Bk) (k : ByteArray) : Int := if opnE t l k ≠ 0 then opnE t l k else if fitB t l = true then 0 else 23
def opnO (t : List Tb) (l : List Bk) (k : ByteArray) : List Spn := if opnX t l k = 0 then opV t l k else []
theorem opnE_both {t : List Tb} {l : List Bk} {k : ByteArray} (h : opnE t l k = 0) : bothE t l = 0 := firstL_allZ h _ (by simp)
set_option maxHeartbeats 16000000 in
theorem Openings_c {H : AHeap} {q r : Option Addr} {c d : Nat} {t : List Tb} {l : List Bk} {k : ByteArray} (hs : SlAt H 2 tb q t) (hlow : LowS q c t.length) (hn : t.length < 1000000) (hr : SlAt H 4 bk r l) (hlow2 : LowS r d l.length) (hq : OldS H r) (hm : l.length < 1000000) :
    Ret Tryz.prog 38 [.slice q t.length c, .slice r l.length d, .string k] H (.tuple ⟨[lstV H.fresh (opnO t l k), I (opnX t l k)]⟩) (lstH H 2 p2 (opnO t l k)) := by
  refine fn_start Tryz.func38 rfl rfl rfl fun hc => ?_
  have hsE : ∀ lo L, SlAt (ext H lo L) 2 tb q t := fun lo L => hs.ext (ext_Ext hc)
  have hrE : ∀ lo L, SlAt (ext H lo L) 4 bk r l := fun lo L => hr.ext (ext_Ext hc)
  apply ct_seq
  apply ct_region
  apply seq_plain; exact do_assign rfl; exact rfl
  apply seq_plain; exact do_assign rfl; exact rfl
  apply seq_nil
  apply ct_seq
  apply ct_seq
  apply ct_region
  apply seq_plain; exact do_move rfl; exact rfl
  apply seq_plain; exact do_move rfl; exact rfl
  apply seq_call (ht := rfl); exact checkBoth_c (hs.ext (ext_Ext hc)) hlow (by omega) (hr.ext (ext_Ext hc)) hlow2 (by omega); exact rfl
  apply seq_plain; exact do_move rfl; exact rfl
  apply seq_newS; exact do_buildSlice rfl rfl rfl rfl rfl rfl rfl; exact rfl
  apply seq_call (ht := rfl); exact named_c (l := [_]) (slAt_map (ext_get_new rfl)) (by simp); exact rfl
  apply seq_plain; exact do_move rfl; exact rfl
  apply seq_plain; exact do_move rfl; exact rfl
  apply seq_call (ht := rfl); exact count_c (hsE _ _) (by omega); exact rfl
  apply seq_plain; exact do_binInt rfl rfl rfl trivial; exact rfl
  apply seq_call (ht := rfl); exact when85; exact rfl
  apply seq_newS; exact do_buildSlice rfl rfl rfl rfl rfl rfl rfl; exact rfl
  apply seq_call (ht := rfl); exact first84 (l := [_, _, _]) (slAt_map (ext_get_new rfl)) (by simp); exact rfl
  apply seq_plain; exact do_assign rfl; exact rfl
  apply seq_nil
  apply ct_seq
  apply ct_region
  apply seq_plain; exact do_move rfl; exact rfl
  apply seq_plain; exact do_binInt rfl rfl rfl trivial; exact rfl
  apply seq_nil
  refine ct_cond rfl (fun h1 => ?_) (fun h1 => ?_)
  · have h1 : opnE t l k ≠ 0 := by simpa [opnE] using h1
    have e : opnX t l k = opnE t l k := if_pos h1
    have e2 : opnO t l k = [] := if_neg (by rw [e]; exact h1)
    rw [e2, e]
    apply ct_seq
    apply ct_region
    apply seq_plain; exact do_move rfl; exact rfl
    apply seq_plain; exact do_assign rfl; exact rfl
    apply seq_plain; exact do_assign rfl; exact rfl
    apply seq_nil
    apply ct_ret
    exact fin_flat hc rfl rfl ⟨rfl, rfl⟩
  have h1 : opnE t l k = 0 := by simpa [opnE] using h1
  apply ct_skip
  apply ct_seq
  apply ct_seq
  apply ct_region
  apply seq_plain; exact do_move rfl; exact rfl
  apply seq_plain; exact do_move rfl; exact rfl
  apply seq_call (ht := rfl); exact fit_c (hs.ext (ext_Ext hc)) (by omega) (hr.ext (ext_Ext hc)) hq.ext (by omega); exact rfl
  apply seq_plain; exact do_unOp rfl rfl; exact rfl
  apply seq_nil
  refine ct_cond rfl (fun h2 => ?_) (fun h2 => ?_)
  · have h2 : fitB t l = false := by simpa using h2
    have e : opnX t l k = 23 := by
      unfold opnX
      rw [if_neg (by rw [h1]; simp), if_neg (by rw [h2]; simp)]
    have e2 : opnO t l k = [] := if_neg (by rw [e]; decide)
    rw [e2, e]
    apply ct_seq
    apply ct_region
    apply seq_plain; exact do_assign rfl; exact rfl
    apply seq_plain; exact do_assign rfl; exact rfl
    apply seq_nil
    apply ct_ret
    exact fin_flat hc rfl rfl ⟨rfl, rfl⟩
  have h2 : fitB t l = true := by simpa using h2
  have e : opnX t l k = 0 := by
    unfold opnX
    rw [if_neg (by rw [h1]; simp), if_pos h2]
  have e2 : opnO t l k = opV t l k := if_pos e
  have ok := (both_ok (opnE_both h1)).ok
  rw [e2, e]
  clear e e2 h1 h2
  apply ct_skip
  apply ct_seq
  apply ct_region
  apply seq_newS; exact do_buildSlice rfl rfl rfl rfl rfl rfl rfl; exact rfl
  apply seq_plain; exact do_assign rfl; exact rfl
  apply seq_nil
  apply ct_seq
  apply ct_seq
  apply ct_region
  apply seq_plain; exact do_move rfl; exact rfl
  apply seq_plain; exact do_lenS rfl rfl rfl; exact rfl
  apply seq_plain; exact do_move rfl; exact rfl
  apply seq_nil
  apply ct_block
  apply ct_loop
  refine lt_meas (α := Nat × Nat × List (Option ABlk)) (fun a => [(0, .slice q t.length c), (1, .slice r l.length d), (2, .string k), (9, .slice (some ⟨nb H a.2.1, 0, none⟩) ([0, 99999] ++ endF (l.take a.1) k).length ([0, 99999] ++ endF (l.take a.1) k).length), (37, .slice r l.length d), (38, I l.length), (39, I a.1)]) (fun a => ext H H.fresh a.2.2) (fun a => a.1 ≤ l.length ∧ LstX H a.2.2 1 i1 a.2.1 ([0, 99999] ++ endF (l.take a.1) k)) (fun a => l.length - a.1) (fun a ha ih => ?_) (0, 2, _) ?_ (by repeat (first | exact sub_nil | apply sub_cons rfl)) (.refl _)
  rotate_left
  · exact ⟨Nat.zero_le _, ⟨false, rfl⟩⟩
  obtain ⟨i, K, L⟩ := a
  obtain ⟨hi, hv⟩ := ha
  simp only at hi hv ih ⊢
  have ih' := fun i' K' L' a1 a2 a3 => ih (i', K', L') a1 ⟨a2, a3⟩
  simp only at ih'
  clear ih
  have hfl := endF_len (l.take i) k
  rw [List.length_take] at hfl
  apply ct_seq
  apply ct_region
  apply seq_plain; exact do_binInt rfl rfl rfl trivial; exact rfl
  apply seq_nil
  apply ct_seq
  refine ct_cond rfl (fun h1 => ?_) (fun h1 => ?_)
  · simp only [decide_eq_true_eq, Int.ofNat_lt] at h1
    obtain ⟨b, o, cs, z, s, ro, rfl, hg, hw⟩ := hr.out (by intro e; rw [e] at h1; simp at h1)
    have se := endF_snoc (k := k) h1
    apply ct_skip
    apply ct_seq
    apply ct_block
    apply ct_seq
    apply ct_region
    apply seq_plain; exact do_indexAddrS rfl rfl rfl (by exact idx_nat (by omega)); exact rfl
    apply seq_plain; exact do_load rfl (by exact ext_get_old (by assumption) (by assumption)) rfl (by exact pt_sl (by assumption) (by omega)); exact rfl
    apply seq_newP; exact do_alloc rfl rfl; exact rfl
    apply seq_putC (hc := by assumption); rotate_left; exact do_store rfl rfl (by exact ext_get_new List.getElem?_concat_length) rfl rfl (nb_own _); rotate_left; exact (by simp)
    apply ct_seq
    apply ct_region
    apply seq_plain; exact do_fieldAddr rfl rfl; exact rfl
    apply seq_plain; exact do_load rfl (by exact ext_get_new getSetLast) rfl (by exact rfl); exact rfl
    apply seq_plain; exact do_move rfl; exact rfl
    apply seq_plain; exact do_binStr rfl rfl rfl; exact rfl
    apply seq_nil
    rw [set_mid rfl]
    refine ct_JXE (α := Nat × List (Option ABlk)) (ds := []) (fun a => [(0, .slice q t.length c), (1, .slice (some ⟨b, o, none⟩) l.length d), (2, .string k), (9, .slice (some ⟨nb H a.1, 0, none⟩) ([0, 99999] ++ endF (l.take (i + 1)) k).length ([0, 99999] ++ endF (l.take (i + 1)) k).length), (37, .slice (some ⟨b, o, none⟩) l.length d), (38, I l.length), (39, I i)]) (fun a => ext H H.fresh a.2) (fun a => LstX H a.2 1 i1 a.1 ([0, 99999] ++ endF (l.take (i + 1)) k)) ?_ ?_
    · refine ct_cond rfl (fun h2 => ?_) (fun h2 => ?_)
      · have h2 : byteL l[i].kind.data.toList k.data.toList = true := h2
        rw [bytes_eq] at h2
        have h2 := of_decide_eq_true h2
        rw [if_pos h2] at se
        have se : [0, 99999] ++ endF (l.take (i + 1)) k = ([0, 99999] ++ endF (l.take i) k) ++ [l[i].frm, l[i].to] := by rw [se, List.append_assoc]
        rw [se]
        apply ct_region
        apply seq_plain; exact do_move rfl; exact rfl
        apply seq_plain; exact do_fieldAddr rfl rfl; exact rfl
        apply seq_plain; exact do_load rfl (by exact ext_get_new List.getElem?_concat_length) rfl (by exact rfl); exact rfl
        apply seq_plain; exact do_fieldAddr rfl rfl; exact rfl
        apply seq_plain; exact do_load rfl (by exact ext_get_new List.getElem?_concat_length) rfl (by exact rfl); exact rfl
        apply seq_newS; exact do_buildSlice rfl rfl rfl rfl rfl rfl rfl; exact rfl
        refine seq_growX (xs := [l[i].frm, l[i].to]) hc ((hv.app _).app _) (fun _ => rfl) (fun _ => rfl) rfl rfl rfl rfl rfl rfl (ext_get_new List.getElem?_concat_length) rfl (by simp) ?_ (Nat.ne_of_beq_eq_false rfl) (Nat.ne_of_beq_eq_false rfl) rfl (fun L3 hv' hst3 hlen3 => ?_)
        · exact Nat.le_trans (Nat.mul_le_mul_right _ (by simp only [List.length_append, List.length_cons, List.length_nil]; omega : _ ≤ 3000000000)) (Nat.le_of_ble_eq_true rfl)
        apply seq_plain; exact do_assign rfl; exact rfl
        apply seq_nil
        exact jx_of (_, L3) hv' (by repeat (first | exact sub_nil | apply sub_cons rfl)) rfl
      · have h2 : byteL l[i].kind.data.toList k.data.toList = false := h2
        rw [bytes_eq] at h2
        have h2 := of_decide_eq_false h2
        rw [if_neg h2, List.append_nil] at se
        rw [se]
        apply ct_skip
        exact jx_of (K, _) (hv.app _) (by repeat (first | exact sub_nil | apply sub_cons rfl)) rfl
    · rintro ⟨K', L'⟩ hv'
      simp only at hv' ⊢
      apply ct_region
      apply seq_plain; exact do_succ rfl (by omega); exact rfl
      apply seq_plain; exact do_move rfl; exact rfl
      apply seq_nil
      exact lt_to (by repeat (first | exact sub_nil | apply sub_cons rfl)) (.refl _) (ih' (i + 1) K' L' (by omega) (by omega) hv')
  have h1 : i = l.length := by simp at h1; omega
  subst h1
  rw [List.take_length] at hv ⊢
  clear ih' hfl
  obtain ⟨T, hTe⟩ : ∃ T, T = [0, 99999] ++ endF l k := ⟨_, rfl⟩
  rw [← hTe] at hv ⊢
  have hTl : T.length ≤ 2000002 := by
    have := endF_len l k
    rw [hTe]; simp only [List.length_append, List.length_cons, List.length_nil]; omega
  obtain ⟨s, hL⟩ := hv.out
  rw [flat_i1_map] at hL
  have hlt : K < L.length := hv.lt
  obtain ⟨U, hU⟩ : ∃ U, U = srtI T := ⟨_, rfl⟩
  have hUl : U.length = T.length := by rw [hU, srtI_len]
  have cS : Ret Tryz.prog 112 [.slice (some ⟨nb H K, 0, none⟩) T.length T.length] (ext H H.fresh L) (packA []) ((ext H H.fresh L).put (nb H K) (.cells (U.map I) 1 s false)) := by
    rw [hU]; exact sort_c (nb_own _) (ext_get_new hL) (by omega)
  obtain ⟨D, hD⟩ : ∃ D, D = endL l k := ⟨_, rfl⟩
  have hDU : D = Lib.compact U := by rw [hD, hU, hTe]; rfl
  have hDl : D.length ≤ U.length := by rw [hDU]; exact compact_len _
  obtain ⟨Z, hZ⟩ : ∃ Z, Z = D ++ List.replicate (U.length - D.length) 0 := ⟨_, rfl⟩
  have hZl : Z.length = U.length := by rw [hZ]; simp; omega
  have cC : ∀ L' : List (Option ABlk), L'[K]? = some (some (.cells (U.map I) 1 s false)) → Ret Tryz.prog 113 [.slice (some ⟨nb H K, 0, none⟩) T.length T.length] (ext H H.fresh L') (.slice (some ⟨nb H K, 0, none⟩) D.length T.length) ((ext H H.fresh L').put (nb H K) (.cells (Z.map I) 1 s false)) := fun L' hL' => by
    rw [← hUl, hZ, hDU]
    exact compact_c (nb_own _) (ext_get_new hL') (by omega) (Nat.le_refl _) (compact_len _)
  apply ct_exit
  apply exit_eq; exact rfl
  apply ct_seq
  apply ct_region
  apply seq_plain; exact do_move rfl; exact rfl
  refine seq_callPC (k := K) hc hlt rfl cS rfl ?_
  have hL1 : (L.set K (some (.cells (U.map I) 1 s false)))[K]? = some (some (.cells (U.map I) 1 s false)) := List.getElem?_set_self hlt
  apply ct_seq
  apply ct_region
  apply seq_plain; exact do_move rfl; exact rfl
  refine seq_callP (k := K) hc (by rw [List.length_set]; exact hlt) rfl (cC _ hL1) rfl ?_
  obtain ⟨M, hM⟩ : ∃ M, M = (L.set K (some (ABlk.cells (U.map I) 1 s false))).set K (some (ABlk.cells (Z.map I) 1 s false)) := ⟨_, rfl⟩
  have hMK : M[K]? = some (some (.cells (Z.map I) 1 s false)) := by rw [hM]; exact List.getElem?_set_self (by rw [List.length_set]; exact hlt)
  rw [← hM]
  clear hM hL1 cC cS hL hv
  have ed := end_ok (l := l) (k := k) ok
  rw [← hD] at ed
  have e2 := ed.two
  apply seq_plain; exact do_assign rfl; exact rfl
  apply seq_nil
  apply ct_seq
  apply ct_region
  apply seq_plain; exact do_assign rfl; exact rfl
  apply seq_nil
  apply ct_seq
  apply ct_seq
  apply ct_region
  apply seq_plain; exact do_move rfl; exact rfl
  apply seq_plain; exact do_move rfl; exact rfl
  apply seq_plain; exact do_lenS rfl rfl rfl; exact rfl
  apply seq_plain; exact do_predN rfl rfl (by omega) (by omega); exact rfl
  apply seq_plain; exact do_sliceTo rfl rfl rfl (fun h => by cases h) (fun a e => by cases e; rfl) (by omega); exact rfl
  apply seq_plain; exact do_lenS rfl rfl rfl; exact rfl
  apply seq_plain; exact do_move rfl; exact rfl
  apply seq_nil
  apply ct_block
  apply ct_loop
  refine lt_meas (α := Nat × List Spn × Value × Nat × List (Option ABlk)) (fun a => [(0, .slice q t.length c), (1, .slice r l.length d), (2, .string k), (9, .slice (some ⟨nb H K, 0, none⟩) D.length T.length), (12, a.2.2.1), (63, .slice (some ⟨nb H K, 0, none⟩) (D.length - 1) T.length), (64, I ((D.length - 1 : Nat) : Int)), (65, I a.1)]) (fun a => ext H H.fresh a.2.2.2.2) (fun a => a.1 ≤ D.length - 1 ∧ (∀ h : a.1 < D.length, OpI (opF t l k) D[a.1] a.2.1) ∧ LstI H a.2.2.2.2 2 p2 a.2.2.2.1 a.2.2.1 a.2.1 ∧ a.2.2.2.2[K]? = some (some (.cells (Z.map I) 1 s false)) ∧ (a.2.1 ≠ [] → K ≠ a.2.2.2.1)) (fun a => D.length - a.1) (fun a ha ih => ?_) (0, [], .slice none 0 0, 0, M) ⟨Nat.zero_le _, fun h => (show OpI (opF t l k) D[0] [] by rw [ed.first h]; exact .nil), .nil, hMK, fun h => absurd rfl h⟩ (by repeat (first | exact sub_nil | apply sub_cons rfl)) (.refl _)
  clear hMK hlt M L
  obtain ⟨i, o, v, K2, L⟩ := a
  obtain ⟨hi, hO, hv, hK, hne⟩ := ha
  simp only at hi hO hv hK hne ih ⊢
  have ih' := fun i' o' v' K' L' a1 a2 a3 a4 a5 a6 => ih (i', o', v', K', L') a1 ⟨a2, a3, a4, a5, a6⟩
  simp only at ih'
  clear ih
  have hKl : K < L.length := (List.getElem?_eq_some_iff.1 hK).1
  apply ct_seq
  apply ct_region
  apply seq_plain; exact do_binInt rfl rfl rfl trivial; exact rfl
  apply seq_nil
  apply ct_seq
  refine ct_cond rfl (fun h1 => ?_) (fun h1 => ?_)
  · simp only [decide_eq_true_eq, Int.ofNat_lt] at h1
    have hi1 : i + 1 < D.length := by omega
    have hZi : Z[i]'(by omega) = D[i] := by simp only [hZ]; exact List.getElem_append_left _
    have hZ1 : Z[i + 1]'(by omega) = D[i + 1] := by simp only [hZ]; exact List.getElem_append_left _
    have hO := hO (by omega)
    have x1 := ed.lt i hi1
    have x0 := ed.nn i (by omega)
    have x9 := ed.le i (by omega)
    have hf : ∀ z, D[i] ≤ z → z < D[i + 1] → opF t l k z = opF t l k D[i] := fun z z1 z2 => opF_const (ed.gap i hi1) z1 z2
    have hln := hO.len x0
    have hnx : ∀ o', OpI (opF t l k) D[i + 1] o' → ∀ h : i + 1 < D.length, OpI (opF t l k) D[i + 1] o' := fun _ h _ => h
    obtain ⟨fr, hfr⟩ : ∃ fr, fr = D[i] := ⟨_, rfl⟩
    obtain ⟨to, hto⟩ : ∃ to, to = D[i + 1] := ⟨_, rfl⟩
    rw [← hfr] at hZi hO x1 x0 x9 hf hln
    rw [← hto] at hZ1 x1 hf
    have hnx : ∀ o', OpI (opF t l k) to o' → ∀ h : i + 1 < D.length, OpI (opF t l k) D[i + 1] o' := fun o' h => by rw [hto] at h; exact hnx o' h
    clear hfr hto
    apply ct_skip
    apply ct_seq
    apply ct_block
    apply ct_seq
    apply ct_region
    apply seq_plain; exact do_move rfl; exact rfl
    apply seq_plain; exact do_indexAddrS rfl rfl rfl (by exact idx_nat (by omega)); exact rfl
    apply seq_plain; exact do_load rfl (by exact ext_get_new (by assumption)) rfl (by exact pt_map (by omega)); exact rfl
    apply seq_plain; exact do_assign rfl; exact rfl
    apply seq_plain; exact do_assign rfl; exact rfl
    apply seq_nil
    apply ct_seq
    apply ct_seq
    apply ct_region
    apply seq_plain; exact do_move rfl; exact rfl
    apply seq_plain; exact do_move rfl; exact rfl
    apply seq_plain; exact do_move rfl; exact rfl
    apply seq_call (ht := rfl); exact depth_c (hrE _ _) (by omega); exact rfl
    apply seq_plain; exact do_move rfl; exact rfl
    apply seq_plain; exact do_move rfl; exact rfl
    apply seq_call (ht := rfl); exact count_c (hsE _ _) (by omega); exact rfl
    apply seq_plain; exact do_binInt rfl rfl rfl trivial; exact rfl
    apply seq_nil
    rw [hZi]
    refine ct_cond rfl (fun u => ?_) (fun u => ?_)
    · have u : opF t l k fr = false := by
        have u : (cntD l k fr : Int) ≥ cntK t k := by simpa using u
        unfold opF
        exact decide_eq_false (by omega)
      apply ct_exit
      apply exit_eq; exact rfl
      apply ct_region
      apply seq_plain; exact do_succ rfl (by omega); exact rfl
      apply seq_plain; exact do_move rfl; exact rfl
      apply seq_nil
      exact lt_to (by repeat (first | exact sub_nil | apply sub_cons rfl)) (.refl _) (ih' (i + 1) o v K2 L (by omega) (by omega) (hnx _ (hO.skip x1 fun z z1 z2 => (hf z z1 z2).trans u)) hv hK hne)
    · have u : opF t l k fr = true := by
        have u : ¬ (cntD l k fr : Int) ≥ cntK t k := by simpa using u
        unfold opF
        exact decide_eq_true (by omega)
      have hf : ∀ z, fr ≤ z → z < to → opF t l k z = true := fun z z1 z2 => (hf z z1 z2).trans u
      clear u
      rcases List.eq_nil_or_concat o with rfl | ⟨p, sp, e⟩
      · have hv0 : v = .slice none 0 0 := by
          rcases hv.out with ⟨_, e⟩ | ⟨h, _⟩
          · exact e
          · exact absurd rfl h
        subst hv0
        apply ct_skip
        apply ct_seq
        apply ct_region
        apply seq_plain; exact do_move rfl; exact rfl
        apply seq_plain; exact do_lenS rfl rfl rfl; exact rfl
        apply seq_plain; exact do_sub rfl rfl (by omega); exact rfl
        apply seq_plain; exact do_assign rfl; exact rfl
        apply seq_nil
        apply ct_seq
        apply ct_region
        apply seq_plain; exact do_move rfl; exact rfl
        apply seq_plain; exact do_binInt rfl rfl rfl trivial; exact rfl
        apply seq_plain; exact do_move rfl; exact rfl
        apply seq_passed (hd := rfl) (hl := rfl) (hb := rfl); exact rfl
        apply seq_passed (hd := rfl) (hl := rfl) (hb := rfl); exact rfl
        apply seq_passed (hd := rfl) (hl := rfl) (hb := rfl); exact rfl
        apply seq_passed (hd := rfl) (hl := rfl) (hb := rfl); exact rfl
        apply seq_passed (hd := rfl) (hl := rfl) (hb := rfl); exact rfl
        apply seq_passed (hd := rfl) (hl := rfl) (hb := rfl); exact rfl
        apply seq_passed (hd := rfl) (hl := rfl) (hb := rfl); exact rfl
        apply seq_plain; exact do_pick_f rfl rfl; exact rfl
        apply seq_nil
        refine ct_cond_f rfl rfl ?_
        apply ct_region
        apply seq_plain; exact do_move rfl; exact rfl
        apply seq_plain; exact do_move rfl; exact rfl
        apply seq_plain; exact do_move rfl; exact rfl
        apply seq_plain; exact do_move rfl; exact rfl
        apply seq_plain; exact do_succ rfl (by omega); exact rfl
        apply seq_plain; exact do_indexAddrS rfl rfl rfl (by exact idx_nat (by omega)); exact rfl
        apply seq_plain; exact do_load rfl (by exact ext_get_new (by assumption)) rfl (by exact pt_map (by omega)); exact rfl
        apply seq_plain; exact do_build rfl rfl rfl rfl; exact rfl
        apply seq_newS; exact do_buildSlice rfl rfl rfl rfl rfl rfl rfl; exact rfl
        refine seq_growI (xs := [(fr, Z[i + 1]'(by omega))]) hc (hv.keeps (.app _)) (fun _ => rfl) (fun _ => rfl) rfl rfl rfl rfl rfl rfl (ext_get_new List.getElem?_concat_length) rfl (by simp) ?_ (Nat.ne_of_beq_eq_false rfl) (Nat.ne_of_beq_eq_false rfl) rfl (fun v' L3 hv' hst3 hlen3 => ?_)
        · exact Nat.le_trans (Nat.mul_le_mul_right _ (by simp only [List.length_cons, List.length_nil]; omega : _ ≤ 3000000000)) (Nat.le_of_ble_eq_true rfl)
        rw [hZ1] at hv'
        apply seq_plain; exact do_assign rfl; exact rfl
        apply seq_nil
        apply ct_region
        apply seq_plain; exact do_succ rfl (by omega); exact rfl
        apply seq_plain; exact do_move rfl; exact rfl
        apply seq_nil
        refine lt_to (by repeat (first | exact sub_nil | apply sub_cons rfl)) (.refl _) (ih' (i + 1) ([] ++ [(fr, to)]) v' _ L3 (by omega) (by omega) (hnx _ (hO.new x0 x1 hf (fun p s e => by simp at e))) hv' ?_ fun _ => ?_)
        · rw [hst3 K (by rw [List.length_append]; omega) fun h => absurd rfl h]; exact getApp hK
        · rw [List.length_append]; omega
      · rw [List.concat_eq_append] at e
        have hno : o ≠ [] := by rw [e]; simp
        have hOl : o.length = p.length + 1 := by rw [e]; simp
        have hOs : ∀ i (h : i < o.length), i = p.length → o[i] = sp := fun i h e2 => by subst e2; simp [e]
        obtain ⟨rfl, hL⟩ := hv.at_ hno
        have hne := hne hno
        -- HERE
        apply ct_skip
        apply ct_seq
        apply ct_region
        apply seq_plain; exact do_move rfl; exact rfl
        apply seq_plain; exact do_lenS rfl rfl rfl; exact rfl
        apply seq_plain; exact do_predN rfl rfl (by omega) (by omega); exact rfl
        apply seq_plain; exact do_assign rfl; exact rfl
        apply seq_nil
        apply ct_seq
        apply ct_region
        apply seq_plain; exact do_move rfl; exact rfl
        apply seq_plain; exact do_binInt rfl rfl rfl trivial; exact rfl
        apply seq_plain; exact do_move rfl; exact rfl
        apply seq_guard (hd := rfl) (hl := rfl); exact do_move rfl; exact rfl
        apply seq_guard (hd := rfl) (hl := rfl); exact do_move rfl; exact rfl
        apply seq_guard (hd := rfl) (hl := rfl); exact do_indexAddrS rfl rfl rfl (by exact idx_nat (by omega)); exact rfl
        apply seq_guard (hd := rfl) (hl := rfl); exact do_indexAddrA rfl rfl rfl (by exact rfl); exact rfl
        apply seq_guard (hd := rfl) (hl := rfl); exact do_load rfl (by exact ext_get_new (by assumption)) rfl (by exact pt_flat1 (fun _ => rfl) (by omega) rfl); exact rfl
        apply seq_guard (hd := rfl) (hl := rfl); exact do_move rfl; exact rfl
        apply seq_guard (hd := rfl) (hl := rfl); exact do_binInt rfl rfl rfl trivial; exact rfl
        apply seq_plain; exact do_pick_t rfl rfl; exact rfl
        apply seq_nil
        refine ct_cond rfl (fun w => ?_) (fun w => ?_)
        · have w : (o[(o.length - 1)]'(by omega)).2 = fr := by simpa using w
          rw [hOs _ _ (by omega)] at w
          apply ct_draw (by assumption); decide +kernel
          apply sd_plain (hfree := rfl); intro _; exact do_move rfl; exact rfl
          apply sd_plain (hfree := rfl); intro _; exact do_move rfl; exact rfl
          apply sd_plain (hfree := rfl); intro _; exact do_move rfl; exact rfl
          apply sd_plain (hfree := rfl); intro _; exact do_move rfl; exact rfl
          apply sd_plain (hfree := rfl); intro _; exact do_succ rfl (by omega); exact rfl
          apply sd_plain (hfree := rfl); intro _; exact do_indexAddrS rfl rfl rfl (by exact idx_nat (by omega)); exact rfl
          apply sd_look (hfree := rfl); exact do_load rfl (by exact ext_get_new (getApp (by assumption))) rfl (by exact pt_map (by omega)); exact rfl
          apply sd_plain (hfree := rfl); intro _; exact do_indexAddrS rfl rfl rfl (by exact idx_nat (by omega)); exact rfl
          apply sd_plain (hfree := rfl); intro _; exact do_indexAddrA rfl rfl rfl (by exact rfl); exact rfl
          refine sd_putQ (k := K2) rfl (by decide +kernel) hc (List.getElem?_eq_some_iff.1 hL).1 (do_store rfl rfl (ext_get_new hL) rfl (stl_flat (f := p2) (w := 2) (j := 1) (x' := (sp.1, Z[i + 1]'(by omega))) (fun _ => rfl) (by omega) (by omega) (by rw [hOs _ _ (by omega)]; rfl) rfl rfl) (nb_own _)) (fun M hl2 ho2 hk2 => ?_)
          rw [hZ1] at hk2
          rw [set_last e (by omega)] at hk2
          apply sd_nil
          apply ct_region
          apply seq_plain; exact do_succ rfl (by omega); exact rfl
          apply seq_plain; exact do_move rfl; exact rfl
          apply seq_nil
          refine lt_to (by repeat (first | exact sub_nil | apply sub_cons rfl)) (by simp only [List.map_nil, List.append_nil]; exact .refl _) (ih' (i + 1) (p ++ [(sp.1, to)]) _ K2 M (by omega) (by omega) (hnx _ (OpI.join (e ▸ hO) x1 hf w)) ⟨.inr ⟨by simp, ?_, hk2⟩⟩ ?_ fun _ => hne)
          · rw [hOl]; simp
          · rw [ho2 K hne]; exact hK
        · have w : ¬ (o[(o.length - 1)]'(by omega)).2 = fr := by simpa using w
          rw [hOs _ _ (by omega)] at w
          apply ct_region
          apply seq_plain; exact do_move rfl; exact rfl
          apply seq_plain; exact do_move rfl; exact rfl
          apply seq_plain; exact do_move rfl; exact rfl
          apply seq_plain; exact do_move rfl; exact rfl
          apply seq_plain; exact do_succ rfl (by omega); exact rfl
          apply seq_plain; exact do_indexAddrS rfl rfl rfl (by exact idx_nat (by omega)); exact rfl
          apply seq_plain; exact do_load rfl (by exact ext_get_new (by assumption)) rfl (by exact pt_map (by omega)); exact rfl
          apply seq_plain; exact do_build rfl rfl rfl rfl; exact rfl
          apply seq_newS; exact do_buildSlice rfl rfl rfl rfl rfl rfl rfl; exact rfl
          refine seq_growI (xs := [(fr, Z[i + 1]'(by omega))]) hc (hv.keeps (.app _)) (fun _ => rfl) (fun _ => rfl) rfl rfl rfl rfl rfl rfl (ext_get_new List.getElem?_concat_length) rfl (by simp) ?_ (Nat.ne_of_beq_eq_false rfl) (Nat.ne_of_beq_eq_false rfl) rfl (fun v' L3 hv' hst3 hlen3 => ?_)
          · exact Nat.le_trans (Nat.mul_le_mul_right _ (by simp only [List.length_cons, List.length_nil]; omega : _ ≤ 3000000000)) (Nat.le_of_ble_eq_true rfl)
          rw [hZ1] at hv'
          apply seq_plain; exact do_assign rfl; exact rfl
          apply seq_nil
          apply ct_region
          apply seq_plain; exact do_succ rfl (by omega); exact rfl
          apply seq_plain; exact do_move rfl; exact rfl
          apply seq_nil
          refine lt_to (by repeat (first | exact sub_nil | apply sub_cons rfl)) (.refl _) (ih' (i + 1) (o ++ [(fr, to)]) v' _ L3 (by omega) (by omega) (hnx _ (hO.new x0 x1 hf (fun p' s' e' => by rw [← snoc_last e e']; exact w))) hv' ?_ fun _ => ?_)
          · rw [hst3 K (by rw [List.length_append]; omega) fun _ => hne]; exact getApp hK
          · rw [List.length_append]; omega
  · have h1 : i = D.length - 1 := by simp at h1; omega
    subst h1
    have hO := hO (by omega)
    rw [ed.last (by omega)] at hO
    rw [hO.eq]
    apply ct_exit
    apply exit_eq; exact rfl
    apply ct_seq
    apply ct_region
    apply seq_plain; exact do_move rfl; exact rfl
    apply seq_plain; exact do_assign rfl; exact rfl
    apply seq_plain; exact do_assign rfl; exact rfl
    apply seq_nil
    apply ct_ret
    exact fin_lst2 hc (hv.lst (k0 := 0) (Nat.zero_le _)) rfl (fun _ => rfl) ⟨rfl, rfl⟩
end Go.Proofs.YtfegloadbajbhaaGreatDoor
