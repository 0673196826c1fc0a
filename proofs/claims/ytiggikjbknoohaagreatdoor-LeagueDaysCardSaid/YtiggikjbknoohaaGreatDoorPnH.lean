/- Contracts: the program's Postpone. -/
import Derived.Test.YtiggikjbknoohaaGreatDoorPnG
noncomputable section
namespace Go.Den
section
variable {P : Program} {rd : Option Nat} {nt : Nat} {ops : Array Oper} {l : EL} {ds : List Nat} {K : St → Prop} {i : Nat} {r : List Oper} {ty : TypeId} {pos : String} {af : Array Edge} {H : AHeap} {lo : Nat}
/-- a new block takes the place of one that was there before the drawn region -/
theorem sd_pushS [PC P] {L0 : List (Option ABlk)} {ow : List Nat} {N : List ABlk} {d n c k : Nat} {op : Op} {y : ABlk} (hc : Closed H) (hfree : isFree op = false) (hser : seriesS ops i = true) (hlt : k < (L0 ++ N.map some).length)
    (hop : Does P l op (ext H lo (L0 ++ N.map some)) (.slice (some ⟨(ext H lo (L0 ++ N.map some)).fresh, 0, none⟩) n c) (((ext H lo (L0 ++ N.map some)).kill (nb H k)).add y)) (hd : Nat.blt d nt = true)
    (hk : SeqD P rd nt ops r (i + 1) ds ((d, .slice (some ⟨nb H (L0.length + N.length), 0, none⟩) n c) :: l) H lo ((L0 ++ N.map some).set k none ++ [some y]) [] [] K) : SeqD P rd nt ops (⟨some d, op, ty, pos, af, none⟩ :: r) i ds l H lo L0 ow N K := by
  have e : (ext H lo (L0 ++ N.map some)).fresh = nb H (L0.length + N.length) := by rw [ext_fresh]; simp
  rw [e] at hop
  exact sd_ho fun ho => sd_seriesC (o := ⟨some d, op, ty, pos, af, none⟩) (v := .slice (some ⟨nb H (L0.length + N.length), 0, none⟩) n c) hfree hser (fun ad ha => opT_of ho rfl hop hd ha) (ext_push hc hlt y) rfl hc (Nat.le_refl _) (by rw [ext_fresh, ext_fresh]; simp only [nb, List.length_append, List.length_set]; omega) hk
theorem ext_app {L M : List (Option ABlk)} (hc : Closed H) : Ext (ext H lo L) (ext H lo (L ++ M)) := by
  intro b y hb
  rw [ext_get hc] at hb ⊢
  split
  · rename_i h
    rw [if_pos h] at hb
    cases hL : L[b / 2 - H.next]? with
    | none => rw [hL] at hb; cases hb
    | some o => rw [getApp hL]; rw [hL] at hb; exact hb
  · rename_i h
    rw [if_neg h] at hb; exact hb
end
namespace Plan
theorem ext_congr {D D' : Nat → List Int} {C : List Int → Int → Bool} {n : Nat} (h : ∀ i, i < n → D i = D' i) : ∀ {f : Nat} {out : List Int}, out.length + f = n → ext D C f out = ext D' C f out
  | 0, _, _ => rfl
  | f + 1, out, hl => by
    simp only [ext]
    rw [h out.length (by omega)]
    refine findSome_congr fun d _ => ?_
    split
    · rfl
    · exact ext_congr h (by simp; omega)
end Plan
end Go.Den
namespace Go.Proofs.YtiggikjbknoohaaGreatDoor
open Go Go.Den
set_option maxRecDepth 100000

theorem daysTo_lt {busy : List Bz} {p : Int × Int} {frm : Int} : ∀ {n : Nat} {d : Int}, d ∈ daysTo busy p frm n → d < frm + n
  | 0, d, h => by simp [daysTo] at h
  | n + 1, d, h => by
    rw [daysTo_succ, List.mem_append] at h
    rcases h with h | h
    · have := daysTo_lt h; omega
    · split at h
      · simp at h; omega
      · simp at h
theorem daysTo_nd {busy : List Bz} {p : Int × Int} {frm : Int} : ∀ {n : Nat}, (daysTo busy p frm n).Nodup
  | 0 => by simp [daysTo]
  | n + 1 => by
    rw [daysTo_succ, List.nodup_append]
    refine ⟨daysTo_nd, by split <;> simp, fun a ha b hb => ?_⟩
    have := daysTo_lt ha
    split at hb
    · simp at hb; omega
    · simp at hb
theorem postp_plain {m : List (Int × Int)} {busy ds : List Bz} {frm to : Int} (h : ds.map (·.l) = (List.range m.length).map (fun k => (datesL m busy frm to k).take m.length)) :
    Plan.ext (dsL ds) (Plan.clash (Mt m)) m.length [] = Plan.refX (datesL m busy frm to) (solvesB (datesL m busy frm to) m) m.length [] := by
  rw [Plan.refX_ext (fun l => solvesB_iff) Plan.Valid.nil, ← Plan.ext_take (D := datesL m busy frm to) (n := m.length) (fun i => by unfold datesL; exact daysTo_nd) (by simp) Plan.Valid.nil]
  refine Plan.ext_congr (n := m.length) (fun i hi => ?_) (by simp)
  have := congrArg (fun l => l[i]?) h
  simp only [List.getElem?_map, List.getElem?_range hi, Option.map_some] at this
  simp [dsL, this]

def InB (H : AHeap) (L : List (Option ABlk)) (x : Bz) : Prop := (x.p = none ∧ x.l = []) ∨ ∃ (k : Nat) (dl : List Int) (n : Nat), L[k]? = some (some (.cells (dl.map I) 1 true false)) ∧ dl ≠ [] ∧ x.p = some ⟨nb H k, 0, none⟩ ∧ x.l = dl.take n
theorem InB.keep {H : AHeap} {L L' : List (Option ABlk)} {x : Bz} (h : InB H L x) (hk : ∀ (k : Nat) (dl : List Int), dl ≠ [] → L[k]? = some (some (.cells (dl.map I) 1 true false)) → L'[k]? = some (some (.cells (dl.map I) 1 true false))) : InB H L' x := by
  rcases h with h | ⟨k, dl, n, h1, h2, h3, h4⟩
  · exact .inl h
  · exact .inr ⟨k, dl, n, hk k dl h2 h1, h2, h3, h4⟩
theorem InB.slAt {H : AHeap} {lo : Nat} {L : List (Option ABlk)} {x : Bz} (h : InB H L x) : SlAt (ext H lo L) 1 i1 x.p x.l := by
  obtain ⟨p, c, l⟩ := x
  rcases h with ⟨h1, h2⟩ | ⟨k, dl, n, h1, h2, h3, h4⟩
  · simp only at h1 h2 ⊢
    subst h1; subst h2; exact .nil
  · simp only at h3 h4 ⊢
    subst h3; subst h4
    exact (slAt_map (g := I) (ext_get_new h1)).take n
theorem not_ints {k : Nat} {L : List (Option ABlk)} {dl : List Int} {p : Option Addr} {n c w : Nat} {r : List Value} {s : Bool} (h1 : L[k]? = some (some (.cells (dl.map I) 1 true false))) (hne : dl ≠ []) (h2 : L[k]? = some (some (.cells (.slice p n c :: r) w s false))) : False := by
  rw [h1] at h2
  cases dl with
  | nil => exact hne rfl
  | cons a t =>
    simp only [List.map_cons, Option.some.injEq, ABlk.cells.injEq, List.cons.injEq] at h2
    exact absurd h2.1.1 (by simp)

theorem lstP_nil {α : Type} {b : Nat} {l : List α} : lstP b l = none → l.length = 0 ∧ l.length = 0 := by
  cases l with
  | nil => exact fun _ => ⟨rfl, rfl⟩
  | cons a t => intro h; cases h
theorem lstP_spot {α : Type} {b : Nat} {l : List α} : ∀ a, lstP b l = some a → a.spot = none := by
  cases l with
  | nil => intro a h; cases h
  | cons a t => intro a h; cases h; rfl
set_option maxHeartbeats 16000000 in
theorem postp_c {H : AHeap} {mq bq : Option Addr} {mc bc : Nat} {m : List (Int × Int)} {busy : List Bz} {frm to : Int} (hm : SlAt H 2 p2 mq m) (hb : BzAt H bq busy) (hs : shortP m busy = true) (hok : planE m busy frm to = 0) :
    CallT Tryz.prog 39 [Pv mq m.length mc bq busy.length bc frm to] H (fun v h' => ∃ p c sol b, v = .tuple ⟨[.slice p sol.length c, I (whenL (!b) 23)]⟩ ∧ SlAt h' 1 i1 p sol ∧ Ext H h' ∧ Closed h' ∧ h'.low ≤ h'.fresh ∧ h'.low ≤ H.low ∧
      (match Plan.refX (datesL m busy frm to) (solvesB (datesL m busy frm to) m) m.length [] with | some s => b = true ∧ sol = s | none => b = false ∧ sol = [])) := by
  have hg := plan_good hok
  have hmn := hg.mn
  refine fn_start Tryz.func39 rfl rfl rfl fun hc => ?_
  apply ct_seq
  apply ct_region
  apply seq_newP; exact do_box rfl rfl rfl; exact rfl
  apply seq_plain; exact do_assign rfl; exact rfl
  apply seq_plain; exact do_assign rfl; exact rfl
  apply seq_nil
  apply ct_seq
  apply ct_seq
  apply ct_region
  apply seq_plain; exact do_load rfl (by exact ext_get_new rfl) rfl (by exact rfl); exact rfl
  apply seq_call (ht := rfl); exact checkPlan_c (hm.ext (ext_Ext hc)) (hb.ext (ext_Ext hc)) hs; exact rfl
  rw [hok]
  apply seq_plain; exact do_assign rfl; exact rfl
  apply seq_nil
  apply ct_seq
  apply ct_region
  apply seq_plain; exact do_move rfl; exact rfl
  apply seq_plain; exact do_binInt rfl rfl rfl trivial; exact rfl
  apply seq_nil
  refine ct_cond_f rfl rfl ?_
  apply ct_skip
  apply ct_seq
  apply ct_region
  apply seq_newP; exact do_alloc rfl rfl; exact rfl
  apply seq_nil
  apply ct_seq
  apply ct_seq
  apply ct_region
  apply seq_plain; exact do_fieldAddr rfl rfl; exact rfl
  apply seq_plain; exact do_load rfl (by exact ext_get_new rfl) rfl (by exact rfl); exact rfl
  apply seq_plain; exact do_lenS rfl rfl rfl; exact rfl
  apply seq_plain; exact do_move rfl; exact rfl
  apply seq_nil
  apply ct_block
  apply ct_loop
  refine lt_meas (α := Nat × Option Addr × List Bz × List (Option ABlk)) (fun a => [(1, .pointer (some ⟨nb H 0, 0, none⟩)), (5, .pointer (some ⟨nb H 1, 0, none⟩)), (18, I m.length), (19, I a.1)]) (fun a => ext H H.fresh a.2.2.2)
    (fun a => a.1 ≤ m.length ∧ a.2.2.1.length = a.1 ∧ a.2.2.2[0]? = some (some (.cells [.slice mq m.length mc, .slice bq busy.length bc, I frm, I to] 0 false false)) ∧ a.2.2.2[1]? = some (some (.cells [.slice a.2.1 a.1 a.1] 0 false false)) ∧ Lst H a.2.2.2 1 bz 2 (.slice a.2.1 a.1 a.1) a.2.2.1 ∧ (∀ x ∈ a.2.2.1, InB H a.2.2.2 x) ∧ a.2.2.1.map (·.l) = (List.range a.1).map (fun k => (datesL m busy frm to k).take m.length)) (fun a => m.length - a.1) (fun a ha ih => ?_) (0, none, [], _) ⟨by omega, rfl, rfl, rfl, .nil, (by intro x hx; cases hx), rfl⟩ (by repeat (first | exact sub_nil | apply sub_cons rfl)) (.refl _)
  obtain ⟨i, pd, ds, L⟩ := a
  obtain ⟨hi, hdl, hbox, hcell, hv, hin, hmap⟩ := ha
  simp only at hi hdl hbox hcell hv hin hmap ih ⊢
  have ih' := fun i' p' ds' L' a1 a2 a3 a4 a5 a6 a7 a8 => ih (i', p', ds', L') a1 ⟨a2, a3, a4, a5, a6, a7, a8⟩
  simp only at ih'
  clear ih
  have hL1 : 1 < L.length := (List.getElem?_eq_some_iff.1 hcell).1
  apply ct_seq
  apply ct_region
  apply seq_plain; exact do_binInt rfl rfl rfl trivial; exact rfl
  apply seq_nil
  apply ct_seq
  refine ct_cond rfl (fun h1 => ?_) (fun h1 => ?_)
  · simp only [decide_eq_true_eq, Int.ofNat_lt] at h1
    have c1 := fun L => dates_c (mc := mc) (bc := bc) (hm.ext (ext_Ext hc (lo := H.fresh) (L := L))) (hb.ext (ext_Ext hc)) hg h1
    simp only [lstH_ext, ext_fresh] at c1
    apply ct_skip
    apply ct_seq
    apply ct_block
    apply ct_seq
    apply ct_region
    apply seq_plain; exact do_move rfl; exact rfl
    apply seq_plain; exact do_assign rfl; exact rfl
    apply seq_nil
    apply ct_seq
    apply ct_region
    apply seq_plain; exact do_load rfl (by exact ext_get_new (by assumption)) rfl (by exact rfl); exact rfl
    apply seq_plain; exact do_move rfl; exact rfl
    apply seq_call (ht := rfl); exact c1 _; exact rfl
    obtain ⟨dl, hdl2⟩ : ∃ dl, dl = datesL m busy frm to i := ⟨_, rfl⟩
    rw [← hdl2]
    subst hdl
    have hds : ds.length < 8 := by omega
    apply seq_plain; exact do_assign rfl; exact rfl
    apply seq_nil
    apply ct_draw (by assumption); decide +kernel
    apply sd_look (hfree := rfl); exact do_load rfl (by exact ext_get_new (getApp (getApp (by assumption)))) rfl (by exact rfl); exact rfl
    apply sd_plain (hfree := rfl); intro _; exact do_move rfl; exact rfl
    apply sd_plain (hfree := rfl); intro _; exact do_move rfl; exact rfl
    apply sd_look (hfree := rfl); exact do_lenS rfl rfl rfl; exact rfl
    apply sd_plain (hfree := rfl); intro _; exact do_fieldAddr rfl rfl; exact rfl
    apply sd_look (hfree := rfl); exact do_load rfl (by exact ext_get_new (getApp (getApp (by assumption)))) rfl (by exact rfl); exact rfl
    apply sd_look (hfree := rfl); exact do_lenS rfl rfl rfl; exact rfl
    apply sd_look (hfree := rfl); exact do_min rfl; exact rfl
    rw [show min (dl.length : Int) (m.length : Int) = (((dl.take m.length).length : Nat) : Int) by rw [List.length_take]; omega]
    refine sd_look rfl (do_sliceTo (p := lstP (nb H L.length) dl) (n := dl.length) (c := dl.length) (i := (dl.take m.length).length) rfl rfl rfl lstP_nil lstP_spot (by rw [List.length_take]; omega)) rfl ?_
    apply sd_newS (hfree := rfl); exact do_buildSlice rfl rfl rfl rfl rfl rfl rfl; exact rfl
    obtain ⟨x, hx⟩ : ∃ x : Bz, x = ⟨lstP (nb H L.length) dl, dl.length, dl.take m.length⟩ := ⟨_, rfl⟩
    have hbx : [Value.slice (lstP (nb H L.length) dl) (dl.take m.length).length dl.length] = bz x := by rw [hx]; rfl
    have hix : InB H (L ++ lstL 1 i1 dl) x := by
      rw [hx]
      cases dl with
      | nil => exact .inl ⟨rfl, by simp⟩
      | cons a t => exact .inr ⟨L.length, a :: t, m.length, by rw [lstL, List.getElem?_concat_length, flat_i1_map], by simp, rfl, rfl⟩
    have hxl : x.l = (datesL m busy frm to ds.length).take m.length := by rw [hx, hdl2]
    have ih2 := fun (L2 : List (Option ABlk)) (kB : Nat) (b1 : 2 ≤ kB) (b2 : L2[0]? = some (some (.cells [.slice mq m.length mc, .slice bq busy.length bc, I frm, I to] 0 false false))) (b3 : 1 < L2.length) (b4 : L2[kB]? = some (some (.cells ((ds ++ [x]).flatMap bz) 1 true false)))
        (b5 : ∀ (k : Nat) (dl' : List Int), dl' ≠ [] → (L ++ lstL 1 i1 dl)[k]? = some (some (.cells (dl'.map I) 1 true false)) → k ≠ 1 → L2[k]? = some (some (.cells (dl'.map I) 1 true false))) =>
      ih' (ds.length + 1) (some ⟨nb H kB, 0, none⟩) (ds ++ [x]) (L2.set 1 (some (.cells [.slice (some ⟨nb H kB, 0, none⟩) (ds.length + 1) (ds.length + 1)] 0 false false))) (by omega) (by omega) (by simp) (by rw [List.getElem?_set_ne (by omega)]; exact b2) (by rw [List.getElem?_set_self b3])
        ⟨.inr ⟨by simp, kB, b1, by simp, by rw [List.getElem?_set_ne (by omega)]; exact b4⟩⟩
        (fun y hy => by
          have hk : InB H (L ++ lstL 1 i1 dl) y := by
            rcases List.mem_append.1 hy with h | h
            · exact (hin y h).keep fun k dl' _ hk => getApp hk
            · rw [List.mem_singleton.1 h]; exact hix
          refine hk.keep fun k dl' h0 hk => ?_
          have hk1 : k ≠ 1 := fun e => by subst e; exact not_ints hk h0 (getApp hcell)
          rw [List.getElem?_set_ne (by omega)]
          exact b5 k dl' h0 hk hk1)
        (by rw [List.map_append, hmap, List.range_succ, List.map_append]; simp [hxl])
    clear ih'
    rcases hv.out with ⟨e1, e2⟩ | ⟨hne, k0, hk0, e2, hL0⟩
    · subst e1
      obtain rfl : pd = none := by injection e2
      refine sd_newSA rfl rfl (by decide +kernel) (do_append0 (n := 1) rfl rfl rfl rfl rfl rfl (ext_get_new (getR (k := 0) rfl)) rfl (Nat.le_of_ble_eq_true rfl) (Nat.ne_of_beq_eq_false rfl) (Nat.ne_of_beq_eq_false rfl) (by omega)) rfl ?_
      refine sd_put (k := 1) rfl (by decide +kernel) hc (by simp; omega) (do_store rfl rfl (ext_get_new (getApp (getApp hcell))) rfl rfl (nb_own _)) ?_
      apply sd_nil
      apply ct_region
      apply seq_plain; exact do_succ rfl (by omega); exact rfl
      apply seq_plain; exact do_move rfl; exact rfl
      apply seq_nil
      simp only [List.map_nil, List.append_nil]
      refine lt_sub (by repeat (first | exact sub_nil | apply sub_cons rfl)) (ih2 (L ++ lstL 1 i1 dl ++ [some (ABlk.cells [.slice (lstP (nb H L.length) dl) (dl.take m.length).length dl.length] 1 false false), some (ABlk.cells [.slice (lstP (nb H L.length) dl) (dl.take m.length).length dl.length] 1 true false)]) ((L ++ lstL 1 i1 dl).length + 1) (by simp; omega) (getApp (getApp hbox)) (by simp; omega) (getR (k := 1) (by rw [hbx]; simp)) (fun k dl' _ hk _ => getApp hk))
    · obtain rfl : pd = some ⟨nb H k0, 0, none⟩ := by injection e2
      have hk0L : k0 < L.length := (List.getElem?_eq_some_iff.1 hL0).1
      refine sd_pushS (k := k0) hc rfl (by decide +kernel) (by simp; omega) (do_append1 (n := 1) rfl rfl rfl rfl rfl rfl (ext_get_new (getR (k := 0) rfl)) rfl (ext_get_new (getApp (getApp hL0))) (len_flat (f := bz) (w := 1) (fun _ => rfl) ds) (nb_own _) rfl (Nat.le_trans (Nat.mul_le_mul_right _ (by omega : 2 * (ds.length + 1) + 1000 ≤ 3000)) (Nat.le_of_ble_eq_true rfl)) (Nat.ne_of_beq_eq_false rfl) (Nat.ne_of_beq_eq_false rfl) (by omega)) rfl ?_
      refine sd_put (k := 1) rfl (by decide +kernel) hc (by simp; omega) (do_store rfl rfl (ext_get_new (getApp (getApp (by rw [List.getElem?_set_ne (by omega)]; exact getApp (getApp hcell))))) rfl rfl (nb_own _)) ?_
      apply sd_nil
      apply ct_region
      apply seq_plain; exact do_succ rfl (by omega); exact rfl
      apply seq_plain; exact do_move rfl; exact rfl
      apply seq_nil
      simp only [List.map_nil, List.append_nil]
      refine lt_sub (by repeat (first | exact sub_nil | apply sub_cons rfl)) (ih2 ((L ++ lstL 1 i1 dl ++ [some (ABlk.cells [.slice (lstP (nb H L.length) dl) (dl.take m.length).length dl.length] 1 false false)]).set k0 none ++ [some (ABlk.cells (ds.flatMap bz ++ [.slice (lstP (nb H L.length) dl) (dl.take m.length).length dl.length]) 1 true false)]) ((L ++ lstL 1 i1 dl).length + 1) (by simp; omega) (getApp (by rw [List.getElem?_set_ne (by omega)]; exact getApp (getApp hbox))) (by simp; omega) ?_ (fun k dl' h0 hk hk1 => ?_))
      · have e : ((L ++ lstL 1 i1 dl ++ [some (ABlk.cells [.slice (lstP (nb H L.length) dl) (dl.take m.length).length dl.length] 1 false false)]).set k0 none).length = (L ++ lstL 1 i1 dl).length + 1 := by simp only [List.length_set, List.length_append, List.length_singleton]
        rw [← e, List.getElem?_concat_length, hbx, List.flatMap_append]
        simp
      · have hkk : k ≠ k0 := fun e => by
          subst e
          cases ds with
          | nil => exact hne rfl
          | cons y t => exact not_ints hk h0 (getApp hL0)
        exact getApp (by rw [List.getElem?_set_ne (by omega)]; exact getApp hk)
  · simp only [decide_eq_false_iff_not, Int.ofNat_lt] at h1
    have him : i = m.length := by omega
    subst him
    clear ih'
    apply ct_exit
    apply exit_eq; exact rfl
    apply ct_seq
    apply ct_region
    apply seq_newP; exact do_alloc rfl rfl; exact rfl
    apply seq_nil
    apply ct_seq
    apply ct_region
    apply seq_newP; exact do_alloc rfl rfl; exact rfl
    apply seq_nil
    apply ct_seq
    apply ct_region
    apply seq_plain; exact do_makeFunc rfl rfl; exact rfl
    apply seq_putC (hc := by assumption); rotate_left; exact do_store rfl rfl (by exact ext_get_new List.getElem?_concat_length) rfl rfl (nb_own _); rotate_left; exact (by simp)
    apply ct_seq
    apply ct_region
    apply seq_plain; exact do_load rfl (by exact ext_get_new getSetLast) rfl (by exact rfl); exact rfl
    have eL : ∀ A B X : Option ABlk, (L ++ [A] ++ [B]).set (L ++ [A]).length X = L ++ [A, X] := by intro A B X; simp
    rw [eL]
    obtain ⟨pd', ed, hsl, _⟩ := hv.slice (lo := H.fresh) (fun _ => rfl)
    have ed : pd = pd' := by injection ed
    subst ed
    have hbd : BzAt (ext H H.fresh L) pd ds := ⟨hsl, fun x hx => (hin x hx).slAt⟩
    have hdx : ∀ x ∈ ds, x.l.length ≤ 1000 := fun x hx => by
      have h : x.l ∈ ds.map (·.l) := List.mem_map.2 ⟨x, hx, rfl⟩
      rw [hmap] at h
      obtain ⟨k, _, e⟩ := List.mem_map.1 h
      rw [← e, List.length_take]; omega
    have hc0 : Closed (ext H H.fresh L) := ext_closed hc
    obtain ⟨A, hA⟩ : ∃ A : ABlk, A = .cells (Value.slice none 0 0).cells.toList 0 false false := ⟨_, rfl⟩
    rw [← hA]
    obtain ⟨be, hbe⟩ : ∃ be, be = nb H (L ++ [some A]).length := ⟨_, rfl⟩
    have hbe' : be = nb H (L.length + 1) := by rw [hbe]; simp
    rw [← hbe]
    have S : ESt (ext H H.fresh L) (ext H H.fresh (L ++ [some A, some (.cells [.func (.func 110) ⟨[]⟩ ⟨[Pt0 (nb H L.length), Pt0 (nb H 1), Pt0 (nb H 0), Pt0 be]⟩] 0 false false)])) (nb H L.length) be (.func (.func 110) ⟨[]⟩ ⟨[Pt0 (nb H L.length), Pt0 (nb H 1), Pt0 (nb H 0), Pt0 be]⟩) [] := by
      refine ⟨ext_closed hc, ?_, ext_app hc, ?_, nb_own _, ?_, ?_, ?_, ?_, ?_, ?_, none, 0, ?_, .inl ⟨rfl, rfl, rfl⟩⟩
      · show min H.fresh H.fresh ≤ _
        rw [ext_fresh]
        have := nb_ge (H := H) (L ++ [some A, some (.cells [.func (.func 110) ⟨[]⟩ ⟨[Pt0 (nb H L.length), Pt0 (nb H 1), Pt0 (nb H 0), Pt0 be]⟩] 0 false false)]).length
        omega
      · rw [ext_fresh, ext_fresh]; simp only [nb, List.length_append]; omega
      · rw [ext_fresh]; exact Nat.le_refl _
      · rw [ext_fresh]; exact nb_lt (by simp)
      · rw [ext_fresh, hbe']; simp only [nb]; omega
      · rw [ext_fresh, hbe']; exact nb_lt (by simp)
      · rw [hbe']; simp only [nb]; omega
      · rw [hbe']; exact ext_get_new (getR (k := 1) rfl)
      · exact ext_get_new (getR (k := 0) (by rw [hA]; rfl))
    refine seq_callQ rfl (extend_c (m := m) (ds := ds) (frm := frm) (to := to) hc0 (hm.ext (ext_Ext hc)) hbd hdl hmn hdx (ext_get_new hbox) (by rw [hdl]; exact ext_get_new hcell) m.length S (by simp)) rfl fun v h' hR => ?_
    obtain ⟨out3, hv3, S4, hfr⟩ := hR
    obtain ⟨pa, ca, hcl, har⟩ := S4.cell
    have hc4 := S4.cl
    refine seqL_to sub_refl (hq_base S4.low) (by simp) ?_
    rw [postp_plain hmap] at hv3
    have key : ∃ b, v = .bool b ∧ (match Plan.refX (datesL m busy frm to) (solvesB (datesL m busy frm to) m) m.length [] with | some s => b = true ∧ out3 = s | none => b = false ∧ out3 = []) := by
      cases hr : Plan.refX (datesL m busy frm to) (solvesB (datesL m busy frm to) m) m.length [] with
      | some s =>
        rw [hr] at hv3
        exact ⟨true, hv3.1, rfl, hv3.2⟩
      | none =>
        rw [hr] at hv3
        exact ⟨false, hv3.1, rfl, hv3.2⟩
    obtain ⟨b, rfl, hkey⟩ := key
    apply seq_plain; exact do_assign rfl; exact rfl
    apply seq_nil
    apply ct_seq
    apply ct_draw (by assumption); decide +kernel
    apply sd_look (hfree := rfl); exact do_load rfl (by exact ext_get_old (by assumption) (by assumption)) rfl (by exact rfl); exact rfl
    apply sd_plain (hfree := rfl); intro _; exact do_move rfl; exact rfl
    apply sd_plain (hfree := rfl); intro _; exact do_unOp rfl rfl; exact rfl
    apply sd_call (ht := rfl); exact when85; exact rfl
    apply sd_plain (hfree := rfl); intro _; exact do_assign rfl; exact rfl
    apply sd_plain (hfree := rfl); intro _; exact do_assign rfl; exact rfl
    apply sd_nil
    apply ct_ret
    refine fin_id rfl ⟨pa, ca, out3, b, rfl, ?_, ?_, ?_, ?_, ?_, hkey⟩
    · exact SlAt.ext (H := ext h' h'.low []) (har.slAt.ext (ext_Ext hc4)) (fun b y h => h)
    · exact Ext.trans (((ext_Ext hc).trans S4.ext0).trans (ext_Ext hc4 (lo := h'.low) (L := []))) (fun b y h => h)
    · exact ext_closed (lo := h'.low) (L := []) hc4
    · show min (min h'.low h'.fresh) H.low ≤ (ext h' h'.low []).fresh
      rw [ext_fresh]; have := nb_ge (H := h') ([] : List (Option ABlk)).length; omega
    · exact Nat.min_le_right _ _
end Go.Proofs.YtiggikjbknoohaaGreatDoor
