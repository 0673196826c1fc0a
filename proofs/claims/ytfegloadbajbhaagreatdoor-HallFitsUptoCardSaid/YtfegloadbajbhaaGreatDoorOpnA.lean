/- Contracts: openings, as the reference has them. -/
import Derived.Test.YtfegloadbajbhaaGreatDoorOpnL
import Derived.Test.YtfegloadbajbhaaGreatDoorHkC
import Derived.Test.YtfegloadbajbhaaGreatDoorSxW
import Derived.Test.YtfegloadbajbhaaGreatDoorStA
noncomputable section
namespace Go.Den
section
variable {P : Program} {rd : Option Nat} {nt : Nat} {ops : Array Oper} {l : EL} {ds : List Nat} {i : Nat} {ty : TypeId} {pos : String} {af : Array Edge} {H : AHeap} {lo : Nat} {L : List (Option ABlk)} {α : Type} {E : α → EL} {hh : α → AHeap} {J : α → Prop}
/-- a store last in its region, before a join of several states -/
theorem seq_putX [PC P] {op : Op} {v : Value} {k : Nat} {x : ABlk} (hc : Closed H) (hlt : k < L.length) (hop : Does P l op (ext H lo L) v ((ext H lo L).put (nb H k) x)) (a : α) (hJ : J a) (hs : Sub (E a) l) (hL : hh a = ext H lo (L.set k (some x))) :
    SeqL P rd nt ops [⟨none, op, ty, pos, af, none⟩] i ⟨ofA l, ds, ext H lo L⟩ (JX E ds hh J) :=
  seq_plain0 hop (seq_nil (jx_hq a hJ hs (by rw [hL]; exact ext_put hc hlt x)))
end
theorem LstI.set_ {α : Type} {H : AHeap} {K m : Nat} {L : List (Option ABlk)} {f : α → List Value} {l l' : List α} {v : Value} (h : LstI H L m f K v l) (hl : l'.length = l.length) : LstI H (L.set K (some (.cells (l'.flatMap f) m true false))) m f K v l' := by
  rcases h.out with ⟨rfl, rfl⟩ | ⟨hne, rfl, hL⟩
  · have : l' = [] := List.length_eq_zero_iff.1 hl
    subst this; exact .nil
  · refine ⟨.inr ⟨fun e => hne ?_, by rw [hl], List.getElem?_set_self (List.getElem?_eq_some_iff.1 hL).1⟩⟩
    rw [e] at hl
    exact List.length_eq_zero_iff.1 hl.symm
end Go.Den
namespace Go.Proofs.YtfegloadbajbhaaGreatDoor
open Go Go.Den
set_option maxRecDepth 100000
theorem asc_len {a : Int} : ∀ {o : List Spn} {lo : Int}, OpAsc o → (∀ s ∈ o, lo ≤ s.1 ∧ s.2 ≤ a) → lo ≤ a → (o.length : Int) ≤ a - lo
  | [], _, _, _, h => by simp; omega
  | s :: o, lo, h, hs, hl => by
    obtain ⟨h', ht⟩ := h.tail
    have h1 := hs s (by simp)
    have h2 := h.pos s (by simp)
    have := asc_len (lo := s.2) h' (fun u hu => ⟨by have := ht u hu; omega, (hs u (List.mem_cons_of_mem _ hu)).2⟩) h1.2
    rw [List.length_cons]
    omega
theorem OpI.len {f : Int → Bool} {a : Int} {o : List Spn} (h : OpI f a o) (h0 : 0 ≤ a) : (o.length : Int) ≤ a := by
  have := asc_len (lo := 0) h.asc (fun s hs => h.lo s hs) h0
  omega
theorem snoc_last {o p p' : List Spn} {s s' : Spn} (h : o = p ++ [s]) (h' : o = p' ++ [s']) : s = s' := by
  rw [h] at h'
  have := List.append_inj' h' rfl
  simpa using this.2
theorem set_last {o p : List Spn} {s x : Spn} {i : Nat} (h : o = p ++ [s]) (hi : i = p.length) : o.set i x = p ++ [x] := by
  subst h; subst hi; simp
set_option maxHeartbeats 8000000 in
theorem refOpenings_c {H : AHeap} {q r : Option Addr} {c d : Nat} {t : List Tb} {l : List Bk} {k : ByteArray} (hs : SlAt H 2 tb q t) (hn : t.length < 1000000) (hr : SlAt H 4 bk r l) (hm : l.length < 1000000) :
    Ret Tryz.prog 44 [.slice q t.length c, .slice r l.length d, .string k] H (lstV H.fresh (opV t l k)) (lstH H 2 p2 (opV t l k)) := by
  refine fn_start Tryz.func44 rfl rfl rfl fun hc => ?_
  have hsE : ∀ lo L, SlAt (ext H lo L) 2 tb q t := fun lo L => hs.ext (ext_Ext hc)
  have hrE : ∀ lo L, SlAt (ext H lo L) 4 bk r l := fun lo L => hr.ext (ext_Ext hc)
  apply ct_seq
  apply ct_region
  apply seq_plain; exact do_assign rfl; exact rfl
  apply seq_nil
  apply ct_seq
  apply ct_region
  apply seq_plain; exact do_assign rfl; exact rfl
  apply seq_nil
  apply ct_seq
  apply ct_region
  apply seq_plain; exact do_assign rfl; exact rfl
  apply seq_nil
  apply ct_seq
  apply ct_block
  apply ct_loop
  refine lt_meas (α := Int × List Spn × Value × Nat × List (Option ABlk)) (fun a => [(0, .slice q t.length c), (1, .slice r l.length d), (2, .string k), (7, a.2.2.1), (8, I a.1)]) (fun a => ext H H.fresh a.2.2.2.2) (fun a => 0 ≤ a.1 ∧ a.1 ≤ 99999 ∧ OpI (opF t l k) a.1 a.2.1 ∧ LstI H a.2.2.2.2 2 p2 a.2.2.2.1 a.2.2.1 a.2.1) (fun a => (99999 - a.1).toNat) (fun a ha ih => ?_) (0, [], .slice none 0 0, 0, []) ⟨by simp, by simp, .nil, .nil⟩ (by repeat (first | exact sub_nil | apply sub_cons rfl)) (.refl _)
  obtain ⟨fr, o, v, K, L⟩ := a
  obtain ⟨h0, h9, hO, hv⟩ := ha
  simp only at h0 h9 hO hv ih ⊢
  have ih' := fun fr' o' v' K' L' a1 a2 a3 a4 a5 => ih (fr', o', v', K', L') a1 ⟨a2, a3, a4, a5⟩
  simp only at ih'
  clear ih
  apply ct_seq
  apply ct_seq
  apply ct_region
  apply seq_plain; exact do_move rfl; exact rfl
  apply seq_plain; exact do_binInt rfl rfl rfl trivial; exact rfl
  apply seq_nil
  refine ct_cond rfl (fun h1 => ?_) (fun h1 => ?_)
  · have h1 : fr < 99999 := by simpa using h1
    apply ct_skip
    apply ct_block
    apply ct_seq
    apply ct_region
    apply seq_plain; exact do_assign rfl; exact rfl
    apply seq_nil
    apply ct_seq
    apply ct_seq
    apply ct_region
    apply seq_plain; exact do_assign rfl; exact rfl
    apply seq_nil
    apply ct_block
    apply ct_loop
    refine lt_up (fun i => [(0, .slice q t.length c), (1, .slice r l.length d), (2, .string k), (7, v), (8, I fr), (9, I (nxC l fr i)), (10, I i)]) (fun _ => True) l.length (fun i hi _ ih2 => ?_) 0 (by omega) trivial (by repeat (first | exact sub_nil | apply sub_cons rfl))
    apply ct_seq
    apply ct_seq
    apply ct_region
    apply seq_plain; exact do_move rfl; exact rfl
    apply seq_plain; exact do_move rfl; exact rfl
    apply seq_plain; exact do_lenS rfl rfl rfl; exact rfl
    apply seq_plain; exact do_binInt rfl rfl rfl trivial; exact rfl
    apply seq_nil
    refine ct_cond rfl (fun h2 => ?_) (fun h2 => ?_)
    · simp only [decide_eq_true_eq, Int.ofNat_lt] at h2
      obtain ⟨b, of, cs, z, s, ro, rfl, hg, hw⟩ := hr.out (by intro e; rw [e] at h2; simp at h2)
      have se := nxC_succ (a := fr) h2
      obtain ⟨m, hm1⟩ : ∃ m, m = nxC l fr i := ⟨_, rfl⟩
      rw [← hm1] at se ⊢
      have se : nxC l fr (i + 1) = if fr < l[i].to then min (if fr < l[i].frm then min m l[i].frm else m) l[i].to else (if fr < l[i].frm then min m l[i].frm else m) := se
      clear hm1
      apply ct_skip
      apply ct_seq
      apply ct_block
      apply ct_seq
      apply ct_seq
      apply ct_region
      apply seq_plain; exact do_move rfl; exact rfl
      apply seq_plain; exact do_move rfl; exact rfl
      apply seq_plain; exact do_indexAddrS rfl rfl rfl (by exact idx_nat (by omega)); exact rfl
      apply seq_plain; exact do_fieldAddr rfl rfl; exact rfl
      apply seq_plain; exact do_load rfl (by exact ext_get_old (by assumption) (by assumption)) rfl (by exact pt_sl1 (by assumption) (by omega) (Nat.le_of_ble_eq_true rfl) rfl); exact rfl
      apply seq_plain; exact do_move rfl; exact rfl
      apply seq_plain; exact do_binInt rfl rfl rfl trivial; exact rfl
      apply seq_nil
      refine ct_JE [(0, .slice q t.length c), (1, .slice (some ⟨b, of, none⟩) l.length d), (2, .string k), (7, v), (8, I fr), (9, I (if fr < l[i].frm then min m l[i].frm else m)), (10, I i)] (ds := []) (h := ext H H.fresh L) ?_ ?_
      · refine ct_cond rfl (fun u => ?_) (fun u => ?_)
        · have u : fr < l[i].frm := by simpa using u
          rw [if_pos u]
          apply ct_region
          apply seq_plain; exact do_move rfl; exact rfl
          apply seq_plain; exact do_move rfl; exact rfl
          apply seq_plain; exact do_move rfl; exact rfl
          apply seq_plain; exact do_indexAddrS rfl rfl rfl (by exact idx_nat (by omega)); exact rfl
          apply seq_plain; exact do_fieldAddr rfl rfl; exact rfl
          apply seq_plain; exact do_load rfl (by exact ext_get_old (by assumption) (by assumption)) rfl (by exact pt_sl1 (by assumption) (by omega) (Nat.le_of_ble_eq_true rfl) rfl); exact rfl
          apply seq_plain; exact do_min rfl; exact rfl
          apply seq_plain; exact do_assign rfl; exact rfl
          apply seq_nil
          exact jp_of (by repeat (first | exact sub_nil | apply sub_cons rfl))
        · have u : ¬ fr < l[i].frm := by simpa using u
          rw [if_neg u]
          apply ct_skip
          exact jp_of (by repeat (first | exact sub_nil | apply sub_cons rfl))
      obtain ⟨m1, hm1⟩ : ∃ m1, m1 = if fr < l[i].frm then min m l[i].frm else m := ⟨_, rfl⟩
      rw [← hm1] at se ⊢
      apply ct_seq
      apply ct_region
      apply seq_plain; exact do_move rfl; exact rfl
      apply seq_plain; exact do_move rfl; exact rfl
      apply seq_plain; exact do_indexAddrS rfl rfl rfl (by exact idx_nat (by omega)); exact rfl
      apply seq_plain; exact do_fieldAddr rfl rfl; exact rfl
      apply seq_plain; exact do_load rfl (by exact ext_get_old (by assumption) (by assumption)) rfl (by exact pt_sl1 (by assumption) (by omega) (Nat.le_of_ble_eq_true rfl) rfl); exact rfl
      apply seq_plain; exact do_move rfl; exact rfl
      apply seq_plain; exact do_binInt rfl rfl rfl trivial; exact rfl
      apply seq_nil
      refine ct_JE [(0, .slice q t.length c), (1, .slice (some ⟨b, of, none⟩) l.length d), (2, .string k), (7, v), (8, I fr), (9, I (nxC l fr (i + 1))), (10, I i)] (ds := []) (h := ext H H.fresh L) ?_ ?_
      · rw [se]
        refine ct_cond rfl (fun u => ?_) (fun u => ?_)
        · have u : fr < l[i].to := by simpa using u
          rw [if_pos u]
          apply ct_region
          apply seq_plain; exact do_move rfl; exact rfl
          apply seq_plain; exact do_move rfl; exact rfl
          apply seq_plain; exact do_move rfl; exact rfl
          apply seq_plain; exact do_indexAddrS rfl rfl rfl (by exact idx_nat (by omega)); exact rfl
          apply seq_plain; exact do_fieldAddr rfl rfl; exact rfl
          apply seq_plain; exact do_load rfl (by exact ext_get_old (by assumption) (by assumption)) rfl (by exact pt_sl1 (by assumption) (by omega) (Nat.le_of_ble_eq_true rfl) rfl); exact rfl
          apply seq_plain; exact do_min rfl; exact rfl
          apply seq_plain; exact do_assign rfl; exact rfl
          apply seq_nil
          exact jp_of (by repeat (first | exact sub_nil | apply sub_cons rfl))
        · have u : ¬ fr < l[i].to := by simpa using u
          rw [if_neg u]
          apply ct_skip
          exact jp_of (by repeat (first | exact sub_nil | apply sub_cons rfl))
      apply ct_region
      apply seq_plain; exact do_move rfl; exact rfl
      apply seq_plain; exact do_succ rfl (by omega); exact rfl
      apply seq_plain; exact do_assign rfl; exact rfl
      apply seq_nil
      exact lt_to (by repeat (first | exact sub_nil | apply sub_cons rfl)) (.refl _) (ih2 (i + 1) (by omega) (by omega) trivial)
    · have h2 : i = l.length := by simp at h2; omega
      subst h2
      clear ih2
      obtain ⟨to, hto⟩ : ∃ to, to = nxC l fr l.length := ⟨_, rfl⟩
      have hx := nxC_inv (l := l) h1 l.length (Nat.le_refl _)
      rw [List.take_length, ← hto] at hx
      rw [← hto]
      obtain ⟨x1, x2, x3⟩ := hx
      have hf : ∀ z, fr ≤ z → z < to → opF t l k z = opF t l k fr := fun z z1 z2 => opF_const (fun x hx _ => x3 x hx) z1 z2
      have hln := hO.len h0
      clear x3 hto
      apply ct_exit
      apply exit_eq; exact rfl
      apply ct_seq
      apply ct_seq
      apply ct_region
      apply seq_plain; exact do_move rfl; exact rfl
      apply seq_plain; exact do_move rfl; exact rfl
      apply seq_plain; exact do_move rfl; exact rfl
      apply seq_call (ht := rfl); exact refAt_c (hrE _ _) (by omega); exact rfl
      apply seq_plain; exact do_move rfl; exact rfl
      apply seq_plain; exact do_move rfl; exact rfl
      apply seq_call (ht := rfl); exact refTables1_c (hsE _ _) (by omega); exact rfl
      apply seq_plain; exact do_binInt rfl rfl rfl trivial; exact rfl
      apply seq_nil
      refine ct_JXE (ds := []) (α := List Spn × Value × Nat × List (Option ABlk)) (fun a => [(0, .slice q t.length c), (1, .slice r l.length d), (2, .string k), (7, a.2.1), (8, I fr), (9, I to)]) (fun a => ext H H.fresh a.2.2.2) (fun a => OpI (opF t l k) to a.1 ∧ LstI H a.2.2.2 2 p2 a.2.2.1 a.2.1 a.1) ?_ ?_
      · refine ct_cond rfl (fun u => ?_) (fun u => ?_)
        · have u : opF t l k fr = true := u
          have hf : ∀ z, fr ≤ z → z < to → opF t l k z = true := fun z z1 z2 => (hf z z1 z2).trans u
          rcases List.eq_nil_or_concat o with rfl | ⟨p, s, e⟩
          · have hv0 : v = .slice none 0 0 := by
              rcases hv.out with ⟨_, e⟩ | ⟨h, _⟩
              · exact e
              · exact absurd rfl h
            subst hv0
            apply ct_seq
            apply ct_region
            apply seq_plain; exact do_move rfl; exact rfl
            apply seq_plain; exact do_lenS rfl rfl rfl; exact rfl
            apply seq_plain; exact do_assign rfl; exact rfl
            apply seq_nil
            apply ct_seq
            apply ct_region
            apply seq_plain; exact do_move rfl; exact rfl
            apply seq_plain; exact do_binInt rfl rfl rfl trivial; exact rfl
            apply seq_plain; exact do_move rfl; exact rfl
            apply seq_passed (hd := rfl) (hl := rfl) (hb := rfl); exact rfl
            apply seq_passed (hd := rfl) (hl := rfl) (hb := rfl); exact rfl
            apply seq_passed (hd := rfl) (hl := rfl) (hb := rfl); exact rfl
            apply seq_passed (hd := rfl) (hl := rfl) (hb := rfl); exact rfl
            apply seq_passed (hd := rfl) (hl := rfl) (hb := rfl); exact rfl
            apply seq_passed (hd := rfl) (hl := rfl) (hb := rfl); exact rfl
            apply seq_passed (hd := rfl) (hl := rfl) (hb := rfl); exact rfl
            apply seq_passed (hd := rfl) (hl := rfl) (hb := rfl); exact rfl
            apply seq_plain; exact do_pick_f rfl rfl; exact rfl
            apply seq_nil
            refine ct_cond_f rfl rfl ?_
            apply ct_region
            apply seq_plain; exact do_move rfl; exact rfl
            apply seq_plain; exact do_move rfl; exact rfl
            apply seq_plain; exact do_move rfl; exact rfl
            apply seq_plain; exact do_build rfl rfl rfl rfl; exact rfl
            apply seq_newS; exact do_buildSlice rfl rfl rfl rfl rfl rfl rfl; exact rfl
            refine seq_growI (xs := [(fr, to)]) hc (hv.keeps (.app _)) (fun _ => rfl) (fun _ => rfl) rfl rfl rfl rfl rfl rfl (ext_get_new List.getElem?_concat_length) rfl (by simp) ?_ (Nat.ne_of_beq_eq_false rfl) (Nat.ne_of_beq_eq_false rfl) rfl (fun v' L3 hv' hst3 hlen3 => ?_)
            · exact Nat.le_trans (Nat.mul_le_mul_right _ (by simp only [List.length_cons, List.length_nil]; omega : _ ≤ 3000000000)) (Nat.le_of_ble_eq_true rfl)
            apply seq_plain; exact do_assign rfl; exact rfl
            apply seq_nil
            exact jx_of ([] ++ [(fr, to)], v', _, L3) ⟨hO.new h0 x1 hf (fun p s e => by simp at e), hv'⟩ (by repeat (first | exact sub_nil | apply sub_cons rfl)) rfl
          · rw [List.concat_eq_append] at e
            have hne : o ≠ [] := by rw [e]; simp
            have hOl : o.length = p.length + 1 := by rw [e]; simp
            have hOs : ∀ i (h : i < o.length), i = p.length → o[i] = s := fun i h e2 => by subst e2; simp [e]
            obtain ⟨rfl, hL⟩ := hv.at_ hne
            apply ct_seq
            apply ct_region
            apply seq_plain; exact do_move rfl; exact rfl
            apply seq_plain; exact do_lenS rfl rfl rfl; exact rfl
            apply seq_plain; exact do_assign rfl; exact rfl
            apply seq_nil
            apply ct_seq
            apply ct_region
            apply seq_plain; exact do_move rfl; exact rfl
            apply seq_plain; exact do_binInt rfl rfl rfl trivial; exact rfl
            apply seq_plain; exact do_move rfl; exact rfl
            refine seq_gsplit rfl rfl (fun w => ?_) (fun w => ?_)
            · clear w
              apply seq_guard (hd := rfl) (hl := rfl); exact do_move rfl; exact rfl
              apply seq_guard (hd := rfl) (hl := rfl); exact do_move rfl; exact rfl
              apply seq_guard (hd := rfl) (hl := rfl); exact do_predN rfl rfl (by omega) (by omega); exact rfl
              apply seq_guard (hd := rfl) (hl := rfl); exact do_indexAddrS rfl rfl rfl (by exact idx_nat (by omega)); exact rfl
              apply seq_guard (hd := rfl) (hl := rfl); exact do_indexAddrA rfl rfl rfl (by exact rfl); exact rfl
              apply seq_guard (hd := rfl) (hl := rfl); exact do_load rfl (by exact ext_get_new (by assumption)) rfl (by exact pt_flat1 (fun _ => rfl) (by omega) rfl); exact rfl
              apply seq_guard (hd := rfl) (hl := rfl); exact do_move rfl; exact rfl
              apply seq_guard (hd := rfl) (hl := rfl); exact do_binInt rfl rfl rfl trivial; exact rfl
              apply seq_plain; exact do_pick_t rfl rfl; exact rfl
              apply seq_nil
              refine ct_cond rfl (fun w => ?_) (fun w => ?_)
              · have w : (o[(o.length - 1)]'(by omega)).2 = fr := by simpa using w
                rw [hOs _ _ (by omega)] at w
                apply ct_region
                apply seq_plain; exact do_move rfl; exact rfl
                apply seq_plain; exact do_move rfl; exact rfl
                apply seq_plain; exact do_predN rfl rfl (by omega) (by omega); exact rfl
                apply seq_plain; exact do_move rfl; exact rfl
                apply seq_plain; exact do_indexAddrS rfl rfl rfl (by exact idx_nat (by omega)); exact rfl
                apply seq_plain; exact do_indexAddrA rfl rfl rfl (by exact rfl); exact rfl
                refine seq_putX hc (List.getElem?_eq_some_iff.1 hL).1 (do_store rfl rfl (ext_get_new hL) rfl (stl_flat (f := p2) (w := 2) (j := 1) (x' := (s.1, to)) (fun _ => rfl) (by omega) (by omega) (by rw [hOs _ _ (by omega)]; rfl) rfl rfl) (nb_own _)) (p ++ [(s.1, to)], _, K, _) ⟨?_, ?_⟩ (by repeat (first | exact sub_nil | apply sub_cons rfl)) rfl
                · exact OpI.join (e ▸ hO) x1 hf w
                · rw [← set_last (x := (s.1, to)) (i := (o.length - 1)) e (by omega)]
                  exact hv.set_ (by simp)
              · have w : ¬ (o[(o.length - 1)]'(by omega)).2 = fr := by simpa using w
                rw [hOs _ _ (by omega)] at w
                apply ct_region
                apply seq_plain; exact do_move rfl; exact rfl
                apply seq_plain; exact do_move rfl; exact rfl
                apply seq_plain; exact do_move rfl; exact rfl
                apply seq_plain; exact do_build rfl rfl rfl rfl; exact rfl
                apply seq_newS; exact do_buildSlice rfl rfl rfl rfl rfl rfl rfl; exact rfl
                refine seq_growI (xs := [(fr, to)]) hc (hv.keeps (.app _)) (fun _ => rfl) (fun _ => rfl) rfl rfl rfl rfl rfl rfl (ext_get_new List.getElem?_concat_length) rfl (by simp) ?_ (Nat.ne_of_beq_eq_false rfl) (Nat.ne_of_beq_eq_false rfl) rfl (fun v' L3 hv' hst3 hlen3 => ?_)
                · exact Nat.le_trans (Nat.mul_le_mul_right _ (by simp only [List.length_cons, List.length_nil]; omega : _ ≤ 3000000000)) (Nat.le_of_ble_eq_true rfl)
                apply seq_plain; exact do_assign rfl; exact rfl
                apply seq_nil
                exact jx_of (o ++ [(fr, to)], v', _, L3) ⟨hO.new h0 x1 hf (fun p' s' e' => by rw [← snoc_last e e']; exact w), hv'⟩ (by repeat (first | exact sub_nil | apply sub_cons rfl)) rfl
            · exfalso
              have w : decide ((o.length : Int) > 0) = false := w
              simp only [decide_eq_false_iff_not] at w
              omega
        · have u : opF t l k fr = false := u
          apply ct_skip
          exact jx_of (o, v, K, L) ⟨hO.skip x1 (fun z z1 z2 => (hf z z1 z2).trans u), hv⟩ (by repeat (first | exact sub_nil | apply sub_cons rfl)) rfl
      · rintro ⟨o', v', K', L'⟩ ⟨hO', hv'⟩
        simp only at hO' hv' ⊢
        apply ct_region
        apply seq_plain; exact do_move rfl; exact rfl
        apply seq_plain; exact do_assign rfl; exact rfl
        apply seq_nil
        exact lt_to (by repeat (first | exact sub_nil | apply sub_cons rfl)) (.refl _) (ih' to o' v' K' L' (by omega) (by omega) x2 hO' hv')
  · have h1 : fr = 99999 := by
      have : ¬ fr < 99999 := by simpa using h1
      omega
    subst h1
    rw [hO.eq]
    apply ct_exit
    apply exit_eq; exact rfl
    apply ct_seq
    apply ct_region
    apply seq_plain; exact do_move rfl; exact rfl
    apply seq_plain; exact do_assign rfl; exact rfl
    apply seq_nil
    apply ct_ret
    exact fin_lst hc (hv.lst (k0 := 0) (Nat.zero_le _)) rfl (fun _ => rfl) ⟨rfl, rfl⟩
end Go.Proofs.YtfegloadbajbhaaGreatDoor
