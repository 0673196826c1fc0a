/- Contracts: the order in which bookings get tables. -/
import Derived.Test.YtflbffhahoblfaaGreatDoorAsC
import Derived.Test.YtflbffhahoblfaaGreatDoorTcH
noncomputable section
namespace Go.Proofs.YtflbffhahoblfaaGreatDoor
open Go Go.Den
set_option maxRecDepth 100000
set_option maxHeartbeats 4000000 in
theorem stableI_c {H : AHeap} {T : List Int} {b z c g : Nat} {s : Bool} {caps : List Value} {cm : Int → Int → Int} (hb : own b = true) (hlt : b < H.fresh) (hg : H.get b = some (inZ T z s)) (hn : T.length ≤ 19)
    (hcm : ∀ x ∈ T, ∀ y ∈ T, ∀ H', (∀ c v, c ≠ b → H.get c = some v → H'.get c = some v) → Ret Tryz.prog g (I x :: I y :: caps) H' (I (cm x y)) H') :
    Ret Tryz.prog 86 [.slice (some ⟨b, 0, none⟩) T.length c, I T.length, .func (.func g) #[] ⟨caps⟩] H (packA []) (H.put b (inZ (insA (fun x y => decide (cm x y < 0)) 0 T (T.length - 1)) z s)) := by
  refine fn_start Tryz.func86 rfl rfl rfl fun hc => ?_
  apply ct_seq
  apply ct_region
  apply seq_plain; exact do_assign rfl; exact rfl
  apply seq_nil
  apply ct_seq
  apply ct_region
  apply seq_plain; exact do_move rfl; exact rfl
  iterate 2 (apply seq_plain; exact do_assign rfl; exact rfl)
  apply seq_nil
  apply ct_seq
  apply ct_block
  apply ct_loop
  apply lt_step
  iterate 2 (apply ct_seq)
  apply ct_region
  iterate 2 (apply seq_plain; exact do_move rfl; exact rfl)
  apply seq_plain; exact do_binInt rfl rfl rfl trivial; exact rfl
  apply seq_nil
  refine ct_cond_f rfl (by simp; omega) ?_
  apply ct_exit
  apply exit_eq; exact rfl
  apply ct_seq
  apply ct_region
  iterate 4 (apply seq_plain; exact do_move rfl; exact rfl)
  refine seq_callPOC hc hb hlt rfl (insertionI_c (T := T) (a0 := 0) (m := T.length) hb (by rw [ext_fresh]; exact Nat.lt_of_lt_of_le hlt (nb_ge _)) (ext_get_old hc hg) (by omega) (Nat.zero_le _) (Nat.le_refl _) fun x hx y hy H' h' => hcm x hx y hy H' fun c v hne hv => h' c v hne (ext_get_old hc hv)) rfl ?_
  have c1 := (Cg.refl hc hg).put (z := z) (s := s) (ro := false) hb hlt (in_flat (insA (fun x y => decide (cm x y < 0)) 0 T (T.length - 1)))
  apply ct_block
  apply ct_loop
  apply lt_step
  iterate 2 (apply ct_seq)
  apply ct_region
  iterate 2 (apply seq_plain; exact do_move rfl; exact rfl)
  apply seq_plain; exact do_binInt rfl rfl rfl trivial; exact rfl
  apply seq_nil
  refine ct_cond_f rfl (by simp; omega) ?_
  apply ct_exit
  apply exit_eq; exact rfl
  exact fin_cg hb hlt ⟨_, _, _, _, rfl, in_flat _⟩ c1 rfl rfl ⟨rfl, rfl⟩
theorem sortStableI_c {H : AHeap} {T : List Int} {b z c g : Nat} {s : Bool} {caps : List Value} {cm : Int → Int → Int} (hb : own b = true) (hlt : b < H.fresh) (hg : H.get b = some (inZ T z s)) (hn : T.length ≤ 19)
    (hcm : ∀ x ∈ T, ∀ y ∈ T, ∀ H', (∀ c v, c ≠ b → H.get c = some v → H'.get c = some v) → Ret Tryz.prog g (I x :: I y :: caps) H' (I (cm x y)) H') :
    Ret Tryz.prog 40 [.slice (some ⟨b, 0, none⟩) T.length c, .func (.func g) #[] ⟨caps⟩] H (packA []) (H.put b (inZ (insA (fun x y => decide (cm x y < 0)) 0 T (T.length - 1)) z s)) := by
  refine fn_start Tryz.func40 rfl rfl rfl fun hc => ?_
  apply ct_region
  iterate 2 (apply seq_plain; exact do_move rfl; exact rfl)
  apply seq_plain; exact do_lenS rfl rfl rfl; exact rfl
  apply seq_plain; exact do_move rfl; exact rfl
  refine seq_call rfl (stableI_c (T := T) hb (by rw [ext_fresh]; exact Nat.lt_of_lt_of_le hlt (nb_ge _)) (ext_get_old hc hg) hn fun x hx y hy H' h' => hcm x hx y hy H' fun c v hne hv => h' c v hne (ext_get_old hc hv)) rfl ?_
  apply seq_nil
  exact fin_cgP hc hb hlt ⟨_, _, _, _, rfl, in_flat _⟩ ⟨_, hg⟩ rfl rfl ⟨rfl, rfl⟩
/-! ### the order -/
def frmZ (l : List Bk) (x : Int) : Int := frmI l x.toNat
def cmZ (l : List Bk) (x y : Int) : Int := cmpI (frmZ l x) (frmZ l y)
def ltZ (l : List Bk) (x y : Int) : Bool := decide (cmZ l x y < 0)
theorem ltZ_iff {l : List Bk} {x y : Int} : ltZ l x y = true ↔ frmZ l x < frmZ l y := by
  unfold ltZ cmZ cmpI
  rw [decide_eq_true_eq]
  by_cases h : frmZ l x < frmZ l y
  · rw [if_pos h]; exact ⟨fun _ => h, fun _ => by decide⟩
  · rw [if_neg h]
    by_cases h2 : frmZ l x > frmZ l y
    · rw [if_pos h2]; exact ⟨fun e => absurd e (by decide), fun e => absurd e h⟩
    · rw [if_neg h2]; exact ⟨fun e => absurd e (by decide), fun e => absurd e h⟩
theorem ltZ_f {l : List Bk} {x y : Int} : ltZ l x y = false ↔ ¬ frmZ l x < frmZ l y := by
  rw [← ltZ_iff]; simp
theorem weakZ (l : List Bk) : Weak (ltZ l) := ⟨fun a b h => by rw [ltZ_iff] at h; rw [ltZ_f]; omega, fun a b c h1 h2 => by rw [ltZ_f] at h1 h2 ⊢; omega⟩
def natZ (o : List Nat) : List Int := o.map fun (i : Nat) => (i : Int)
theorem natZ_len {o : List Nat} : (natZ o).length = o.length := by unfold natZ; exact List.length_map _
theorem ord_sort (l : List Bk) : isort (ltZ l) (natZ (List.range l.length)) = natZ (ordL l) := by
  have hp := isort_perm (lt := ltZ l) (natZ (List.range l.length))
  have hR : (natZ (List.range l.length)).Pairwise (· < ·) := by
    unfold natZ
    rw [List.pairwise_map]
    exact List.pairwise_lt_range.imp fun h => by omega
  have hs := isort_stab (weakZ l) hR _ (Nat.le_refl _)
  rw [List.take_length] at hs
  obtain ⟨S, hS⟩ : ∃ S, S = isort (ltZ l) (natZ (List.range l.length)) := ⟨_, rfl⟩
  rw [← hS] at hp hs ⊢
  have e1 : (natZ (List.range l.length)).map Int.toNat = List.range l.length := by
    unfold natZ
    rw [List.map_map]
    have : (Int.toNat ∘ fun i : Nat => (i : Int)) = id := by funext i; simp
    rw [this, List.map_id]
  have h1 : (S.map Int.toNat).Perm (List.range l.length) := by rw [← e1]; exact hp.map _
  have h2 : (S.map Int.toNat).Pairwise fun i k => lexB l i k = true := by
    rw [List.pairwise_map]
    refine hs.imp fun {a b} h => ?_
    obtain ⟨k1, k2⟩ := h
    rw [ltZ_f] at k1
    rw [lexB_iff]
    unfold frmZ at k1
    by_cases e : frmI l a.toNat = frmI l b.toNat
    · have := k2 (by rw [ltZ_f]; unfold frmZ; omega)
      exact .inr ⟨e, by omega⟩
    · exact .inl (by omega)
  rw [← ordL_uniq h1 h2]
  unfold natZ
  rw [List.map_map]
  have : S.map ((fun i : Nat => (i : Int)) ∘ Int.toNat) = S.map id := by
    refine List.map_congr_left fun x hx => ?_
    have hx := hp.subset hx
    unfold natZ at hx
    obtain ⟨i, _, rfl⟩ := List.mem_map.1 hx
    simp
  rw [this, List.map_id]
theorem ord_ins (l : List Bk) : insA (fun x y => decide (cmZ l x y < 0)) 0 (natZ (List.range l.length)) ((natZ (List.range l.length)).length - 1) = natZ (ordL l) := by
  rw [← ord_sort]
  by_cases hne : natZ (List.range l.length) = []
  · rw [hne]; rfl
  · have := insA_isort (weakZ l) (q := []) (r := []) hne
    show insA (ltZ l) 0 _ _ = _
    simpa using this
theorem assign1_c {H : AHeap} {r : Option Addr} {d bl z : Nat} {s ro : Bool} {l : List Bk} {i k : Int} (hr : SlAt H 4 bk r l) (hg : H.get bl = some (.cells [.slice r l.length d] z s ro)) (hi : 0 ≤ i ∧ i < l.length) (hk : 0 ≤ k ∧ k < l.length) :
    Ret Tryz.prog 41 [I i, I k, .pointer (some ⟨bl, 0, none⟩)] H (I (cmZ l i k)) H := by
  refine fn_start Tryz.func41 rfl rfl rfl fun hc => ?_
  obtain ⟨i, rfl⟩ : ∃ n : Nat, i = n := ⟨i.toNat, by omega⟩
  obtain ⟨k, rfl⟩ : ∃ n : Nat, k = n := ⟨k.toNat, by omega⟩
  have h1 : i < l.length := by omega
  have h2 : k < l.length := by omega
  obtain ⟨b1, o1, cs1, z1, st1, ro1, rfl, hg1, hw1⟩ := hr.out (by intro e; rw [e] at h1; simp at h1)
  have e : cmZ l (i : Int) (k : Int) = cmpI l[i].frm l[k].frm := by
    unfold cmZ frmZ
    rw [Int.toNat_natCast, Int.toNat_natCast, frmI_at h1, frmI_at h2]
  rw [e]
  apply ct_seq
  apply ct_region
  apply seq_plain; exact do_assign rfl; exact rfl
  apply seq_nil
  apply ct_seq
  apply ct_draw (by assumption); decide +kernel
  apply sd_look (hfree := rfl); exact do_load rfl (by exact ext_get_old (by assumption) (by assumption)) rfl (by exact rfl); exact rfl
  apply sd_plain (hfree := rfl); intro _; exact do_move rfl; exact rfl
  apply sd_plain (hfree := rfl); intro _; exact do_indexAddrS rfl rfl rfl (by exact idx_nat (by omega)); exact rfl
  apply sd_plain (hfree := rfl); intro _; exact do_fieldAddr rfl rfl; exact rfl
  apply sd_look (hfree := rfl); exact do_load rfl (by exact ext_get_old (by assumption) (by assumption)) rfl (by exact pt_sl1 (by assumption) (by omega) (Nat.le_of_ble_eq_true rfl) rfl); exact rfl
  apply sd_look (hfree := rfl); exact do_load rfl (by exact ext_get_old (by assumption) (by assumption)) rfl (by exact rfl); exact rfl
  apply sd_plain (hfree := rfl); intro _; exact do_move rfl; exact rfl
  apply sd_plain (hfree := rfl); intro _; exact do_indexAddrS rfl rfl rfl (by exact idx_nat (by omega)); exact rfl
  apply sd_plain (hfree := rfl); intro _; exact do_fieldAddr rfl rfl; exact rfl
  apply sd_look (hfree := rfl); exact do_load rfl (by exact ext_get_old (by assumption) (by assumption)) rfl (by exact pt_sl1 (by assumption) (by omega) (Nat.le_of_ble_eq_true rfl) rfl); exact rfl
  apply sd_call (ht := rfl); exact compare_c; exact rfl
  apply sd_plain (hfree := rfl); intro _; exact do_assign rfl; exact rfl
  apply sd_nil
  apply ct_ret
  exact fin_flat hc rfl rfl ⟨rfl, rfl⟩
end Go.Proofs.YtflbffhahoblfaaGreatDoor
/- Contract: Assign. -/
noncomputable section
namespace Go.Proofs.YtflbffhahoblfaaGreatDoor
open Go Go.Den
set_option maxRecDepth 100000
def asgX (t : List Tb) (l : List Bk) : Int := if bothE t l ≠ 0 then bothE t l else if fitB t l = true then 0 else 23
def asgVal (H : AHeap) (t : List Tb) (l : List Bk) : Value := .tuple ⟨[if asgX t l = 0 then .slice (some ⟨H.fresh, 0, none⟩) l.length l.length else .slice none 0 0, I (asgX t l)]⟩
def asgH (H : AHeap) (t : List Tb) (l : List Bk) : AHeap := if asgX t l = 0 then H.add (.cells ((asgV t l).map I) 1 false false) else H
theorem asgA_lt {t : List Tb} {l : List Bk} {n : Nat} {a : List Int} (h : AsI t l n a) (ht : t.length ≤ 64) : ∀ m (hm : m < a.length), a[m] < 64 := fun m hm => by
  have hml : m < l.length := by rw [← h.len]; exact hm
  by_cases e : m ∈ (ordL l).take n
  · obtain ⟨k, k1, k2, _⟩ := h.asg m hml e
    rw [List.getElem?_eq_getElem hm] at k1
    rw [Option.some.inj k1]; omega
  · have := h.un m hml e
    rw [List.getElem?_eq_getElem hm] at this
    rw [Option.some.inj this]; omega
theorem first1_z {e : Int} : firstL [e] = e := by
  unfold firstL
  by_cases h : e = 0 <;> simp [h]
end Go.Proofs.YtflbffhahoblfaaGreatDoor
