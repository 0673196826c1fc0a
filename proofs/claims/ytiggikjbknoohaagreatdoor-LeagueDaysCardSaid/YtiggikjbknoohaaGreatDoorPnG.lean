/- Contracts: the program's search for days. -/
import Derived.Test.YtiggikjbknoohaaGreatDoorPnF
import Derived.Test.YtiggikjbknoohaaGreatDoorSxV
noncomputable section
namespace Go.Proofs.YtiggikjbknoohaaGreatDoor
open Go Go.Den
set_option maxRecDepth 100000

/-- where the days so far lie -/
def ArrAt (H0 h : AHeap) (bo be : Nat) (pa : Option Addr) (ca : Nat) (out : List Int) : Prop := (pa = none ∧ out = [] ∧ ca = 0) ∨ ∃ (ba : Nat) (arr : List Int), pa = some ⟨ba, 0, none⟩ ∧ own ba = true ∧ H0.fresh ≤ ba ∧ ba < h.fresh ∧ ba ≠ bo ∧ ba ≠ be ∧ h.get ba = some (.cells (arr.map I) 1 true false) ∧ arr.length = ca ∧ out.length ≤ ca ∧ arr.take out.length = out
structure ESt (H0 h : AHeap) (bo be : Nat) (fv : Value) (out : List Int) : Prop where
  cl : Closed h
  low : h.low ≤ h.fresh
  ext0 : Ext H0 h
  ge : H0.fresh ≤ h.fresh
  bo1 : own bo = true
  bo2 : H0.fresh ≤ bo
  bo3 : bo < h.fresh
  be2 : H0.fresh ≤ be
  be3 : be < h.fresh
  ne : be ≠ bo
  func : h.get be = some (.cells [fv] 0 false false)
  cell : ∃ pa ca, h.get bo = some (.cells [.slice pa out.length ca] 0 false false) ∧ ArrAt H0 h bo be pa ca out
theorem ESt.next {H0 h X : AHeap} {bo be : Nat} {fv : Value} {out out2 : List Int} (S : ESt H0 h bo be fv out) (hc0 : Closed H0) (hcX : Closed X) (hlX : X.low ≤ X.fresh) (hfX : h.fresh ≤ X.fresh) (hsame : ∀ b y, (b % 2 = 1 ∨ b < H0.fresh ∨ b = be) → h.get b = some y → X.get b = some y)
    (cell : ∃ pa ca, X.get bo = some (.cells [.slice pa out2.length ca] 0 false false) ∧ ArrAt H0 X bo be pa ca out2) : ESt H0 X bo be fv out2 := by
  refine ⟨hcX, hlX, fun b y hb => hsame b y ?_ (S.ext0 b y hb), Nat.le_trans S.ge hfX, S.bo1, S.bo2, Nat.lt_of_lt_of_le S.bo3 hfX, S.be2, Nat.lt_of_lt_of_le S.be3 hfX, S.ne, hsame _ _ (.inr (.inr rfl)) S.func, cell⟩
  rcases hc0.lt hb with h | h
  · exact .inl h
  · exact .inr (.inl h)
theorem ESt.lower {H0 h : AHeap} {bo be x : Nat} {fv : Value} {out : List Int} (S : ESt H0 h bo be fv out) (hx : x ≤ h.fresh) : ESt H0 { h with low := x } bo be fv out :=
  ⟨S.cl, hx, S.ext0, S.ge, S.bo1, S.bo2, S.bo3, S.be2, S.be3, S.ne, S.func, S.cell⟩
theorem ArrAt.slAt {H0 X : AHeap} {bo be ca : Nat} {pa : Option Addr} {out : List Int} (h : ArrAt H0 X bo be pa ca out) : SlAt X 1 i1 pa out := by
  rcases h with ⟨rfl, rfl, _⟩ | ⟨ba, arr, rfl, _, _, _, _, _, hg, _, _, ht⟩
  · exact .nil
  · have := (slAt_map (g := I) hg).take out.length
    rwa [ht] at this
theorem ESt.step {H0 h H1 : AHeap} {bo be lo n ca : Nat} {pa : Option Addr} {L : List (Option ABlk)} {fv : Value} {out out2 : List Int} (S : ESt H0 h bo be fv out) (hc0 : Closed H0) (hc1 : Closed H1) (hf : H1.fresh = h.fresh) (hsame : ∀ b y, (b % 2 = 1 ∨ b < H0.fresh ∨ b = be) → h.get b = some y → H1.get b = some y) (hn : n = out2.length)
    (har : ArrAt H0 (ext (H1.put bo (.cells [.slice pa n ca] 0 false false)) lo L) bo be pa ca out2) : ESt H0 (ext (H1.put bo (.cells [.slice pa n ca] 0 false false)) lo L) bo be fv out2 := by
  have hlt : bo < H1.fresh := by rw [hf]; exact S.bo3
  have hcp := closed_put (x := .cells [.slice pa n ca] 0 false false) hc1 S.bo1 hlt
  have hfp : (H1.put bo (.cells [.slice pa n ca] 0 false false)).fresh = h.fresh := hf
  have hge : h.fresh ≤ (ext (H1.put bo (.cells [.slice pa n ca] 0 false false)) lo L).fresh := by rw [ext_fresh, ← hfp]; exact nb_ge _
  refine S.next hc0 (ext_closed hcp) (by show min lo (H1.put bo (.cells [.slice pa n ca] 0 false false)).fresh ≤ _; rw [hfp]; omega) hge (fun b y hb hy => ext_get_old hcp (put_ne S.bo1 (fun e => ?_) (hsame b y hb hy))) ⟨pa, ca, by rw [← hn]; exact ext_get_old hcp (put_same S.bo1), har⟩
  have h1 := own_iff.1 S.bo1
  have h2 := S.bo2
  have h3 := S.ne
  omega
theorem ESt.wrap {H0 h : AHeap} {bo be lo : Nat} {fv : Value} {out : List Int} (S : ESt H0 h bo be fv out) (hc0 : Closed H0) : ESt H0 (ext h lo []) bo be fv out := by
  obtain ⟨pa, ca, hcl, har⟩ := S.cell
  refine S.next hc0 (ext_closed S.cl) (by show min lo h.fresh ≤ _; rw [ext_fresh]; have := nb_ge (H := h) ([] : List (Option ABlk)).length; omega) (by rw [ext_fresh]; exact nb_ge _) (fun b y _ hb => ext_get_old S.cl hb) ⟨pa, ca, ext_get_old S.cl hcl, ?_⟩
  rcases har with h1 | ⟨ba, arr, h1, h2, h3, h4, h5, h6, h7, h8⟩
  · exact .inl h1
  · exact .inr ⟨ba, arr, h1, h2, h3, by rw [ext_fresh]; exact Nat.lt_of_lt_of_le h4 (nb_ge _), h5, h6, ext_get_old S.cl h7, h8⟩
theorem ArrAt.drop1 {H0 X Y : AHeap} {bo be ca : Nat} {pa : Option Addr} {out : List Int} {d : Int} (h : ArrAt H0 X bo be pa ca (out ++ [d])) (hf : X.fresh ≤ Y.fresh) (hs : ∀ b y, b ≠ bo → X.get b = some y → Y.get b = some y) : ArrAt H0 Y bo be pa ca out := by
  rcases h with ⟨_, h, _⟩ | ⟨ba, arr, h1, h2, h3, h4, h5, h6, h7, h8, h9, h10⟩
  · simp at h
  · refine .inr ⟨ba, arr, h1, h2, h3, Nat.lt_of_lt_of_le h4 hf, h5, h6, hs _ _ h5 h7, h8, by simp at h9; omega, ?_⟩
    have := congrArg (List.take out.length) h10
    rw [List.take_take, List.take_left] at this
    rwa [Nat.min_eq_left (by simp)] at this
theorem writeAt_ints {d : Int} : ∀ {arr : List Int} {k : Nat}, k < arr.length → writeAt (arr.map I) k [I d] = some ((arr.set k d).map I)
  | [], k, h => by simp at h
  | a :: r, 0, _ => by simp [writeAt]
  | a :: r, k + 1, h => by simp [writeAt, writeAt_ints (arr := r) (k := k) (by simpa using h)]

theorem _root_.Go.Den.HQ.trans {a b c : AHeap} (h : HQ a b) (k : HQ b c) : HQ a c := ⟨fun x => (h.get x).trans (k.get x), h.next.trans k.next, h.low.trans k.low⟩
theorem take_set_snoc {arr out : List Int} {d : Int} (hk : out.length < arr.length) (ht : arr.take out.length = out) : (arr.set out.length d).take (out.length + 1) = out ++ [d] := by
  rw [List.take_add_one, List.take_set_of_le (Nat.le_refl _), ht, List.getElem?_set_self hk]; rfl
theorem kill_ne {H : AHeap} {b c : Nat} {y : ABlk} (hb : own b = true) (hne : c ≠ b) (h : H.get c = some y) : (H.kill b).get c = some y := by rw [kill_get hb, if_neg hne]; exact h
theorem nb_lt {H : AHeap} {k n : Nat} (h : k < n) : nb H k < nb H n := by simp only [nb]; omega

def clashTo (m : List (Int × Int)) (out : List Int) (i : Nat) (d : Int) (k : Nat) : Bool := (List.range k).any fun j => (nth out j == d) && Mt m i j
theorem clashTo_succ {m : List (Int × Int)} {out : List Int} {i : Nat} {d : Int} {k : Nat} : clashTo m out i d (k + 1) = (clashTo m out i d k || ((nth out k == d) && Mt m i k)) := by
  simp [clashTo, List.range_succ]
theorem clashTo_all {m : List (Int × Int)} {out : List Int} {d : Int} : clashTo m out out.length d out.length = Plan.clash (Mt m) out d := rfl
def dsL (ds : List Bz) (i : Nat) : List Int := (ds[i]?.map (·.l)).getD []
theorem dsL_eq {ds : List Bz} {i : Nat} (h : i < ds.length) : dsL ds i = ds[i].l := by simp [dsL, h]
abbrev Pt0 (b : Nat) : Value := .pointer (some ⟨b, 0, none⟩)

set_option maxHeartbeats 16000000 in
theorem extend_c {H0 : AHeap} {mq bq qd : Option Addr} {mc bn bc cd bo be bd bp zd : Nat} {sd rod : Bool} {m : List (Int × Int)} {ds : List Bz} {frm to : Int} (hc0 : Closed H0) (hm : SlAt H0 2 p2 mq m) (hd : BzAt H0 qd ds) (hdn : ds.length = m.length) (hmn : m.length ≤ 8) (hdl : ∀ x ∈ ds, x.l.length ≤ 1000)
    (hbox : H0.get bp = some (.cells [.slice mq m.length mc, .slice bq bn bc, I frm, I to] 0 false false)) (hcell : H0.get bd = some (.cells [.slice qd ds.length cd] zd sd rod)) :
    ∀ (f : Nat) {h : AHeap} {out : List Int}, ESt H0 h bo be (.func (.func 110) ⟨[]⟩ ⟨[Pt0 bo, Pt0 bd, Pt0 bp, Pt0 be]⟩) out → out.length + f = m.length →
    CallT Tryz.prog 110 [Pt0 bo, Pt0 bd, Pt0 bp, Pt0 be] h (fun v h' => ∃ out', (match Plan.ext (dsL ds) (Plan.clash (Mt m)) f out with | some sol => v = .bool true ∧ out' = sol | none => v = .bool false ∧ out' = out) ∧ ESt H0 h' bo be (.func (.func 110) ⟨[]⟩ ⟨[Pt0 bo, Pt0 bd, Pt0 bp, Pt0 be]⟩) out' ∧ h.fresh ≤ h'.fresh) := by
  intro f
  generalize hfv : (Value.func (.func 110) ⟨[]⟩ ⟨[Pt0 bo, Pt0 bd, Pt0 bp, Pt0 be]⟩) = fv
  induction f with
  | zero =>
    intro h out S hl
    obtain ⟨pa, ca, hcl, har⟩ := S.cell
    have hcd := S.ext0 _ _ hcell
    refine fn_start Tryz.func110 rfl rfl rfl fun hc => ?_
    apply ct_seq
    apply ct_region
    apply seq_plain; exact do_assign rfl; exact rfl
    apply seq_nil
    apply ct_seq
    apply ct_region
    apply seq_plain; exact do_load rfl (by exact ext_get_old (by assumption) (by assumption)) rfl (by exact rfl); exact rfl
    apply seq_plain; exact do_lenS rfl rfl rfl; exact rfl
    apply seq_plain; exact do_assign rfl; exact rfl
    apply seq_nil
    apply ct_seq
    apply ct_seq
    apply ct_region
    apply seq_plain; exact do_move rfl; exact rfl
    apply seq_plain; exact do_load rfl (by exact ext_get_old (by assumption) (by assumption)) rfl (by exact rfl); exact rfl
    apply seq_plain; exact do_lenS rfl rfl rfl; exact rfl
    apply seq_plain; exact do_binInt rfl rfl rfl trivial; exact rfl
    apply seq_nil
    refine ct_cond_t rfl (by simp; omega) ?_
    apply ct_seq
    apply ct_region
    apply seq_plain; exact do_assign rfl; exact rfl
    apply seq_nil
    apply ct_ret
    refine fin_id rfl ⟨out, ⟨rfl, rfl⟩, ?_, Nat.le_refl _⟩
    exact (S.next hc0 (ext_closed hc) (by show min h.fresh h.fresh ≤ _; rw [ext_fresh]; simp only [nb, AHeap.fresh]; omega) (by rw [ext_fresh]; exact nb_ge _) (fun b y _ hb => ext_get_old hc hb) ⟨pa, ca, ext_get_old hc hcl, by
      rcases har with h1 | ⟨ba, arr, h1, h2, h3, h4, h5, h6, h7, h8⟩
      · exact .inl h1
      · exact .inr ⟨ba, arr, h1, h2, h3, h4, h5, h6, ext_get_old hc h7, h8⟩⟩).lower (by show min (min h.fresh h.fresh) h.low ≤ _; rw [ext_fresh]; have := nb_ge (H := h) ([] : List (Option ABlk)).length; omega)
  | succ f ihf =>
    intro h out S hl
    obtain ⟨pa0, ca0, hcl0, har0⟩ := S.cell
    have hcd0 := S.ext0 _ _ hcell
    have hio : out.length < ds.length := by omega
    have him : out.length < m.length := by omega
    obtain ⟨bD, oD, csD, zD, sD, roD, rfl, hgD, hwD⟩ := hd.at_.out (by intro e; rw [e] at hio; simp at hio)
    obtain ⟨bm, om, csm, zm, sm, rom, rfl, hgm, hwm⟩ := hm.out (by intro e; rw [e] at him; simp at him)
    have hgD0 := S.ext0 _ _ hgD
    obtain ⟨px, cx, lx, hx⟩ : ∃ p c l, ds[out.length] = ⟨p, c, l⟩ := ⟨_, _, _, rfl⟩
    have hex := hd.each ds[out.length] (List.getElem_mem hio)
    have hxl := hdl ds[out.length] (List.getElem_mem hio)
    have hdx := dsL_eq hio
    refine fn_start Tryz.func110 rfl rfl rfl fun hc => ?_
    apply ct_seq
    apply ct_region
    apply seq_plain; exact do_assign rfl; exact rfl
    apply seq_nil
    apply ct_seq
    apply ct_region
    apply seq_plain; exact do_load rfl (by exact ext_get_old (by assumption) (by assumption)) rfl (by exact rfl); exact rfl
    apply seq_plain; exact do_lenS rfl rfl rfl; exact rfl
    apply seq_plain; exact do_assign rfl; exact rfl
    apply seq_nil
    apply ct_seq
    apply ct_seq
    apply ct_region
    apply seq_plain; exact do_move rfl; exact rfl
    apply seq_plain; exact do_load rfl (by exact ext_get_old (by assumption) (by assumption)) rfl (by exact rfl); exact rfl
    apply seq_plain; exact do_lenS rfl rfl rfl; exact rfl
    apply seq_plain; exact do_binInt rfl rfl rfl trivial; exact rfl
    apply seq_nil
    refine ct_cond_f rfl (by simp; omega) ?_
    apply ct_skip
    apply ct_seq
    apply ct_seq
    apply ct_region
    apply seq_plain; exact do_load rfl (by exact ext_get_old (by assumption) (by assumption)) rfl (by exact rfl); exact rfl
    apply seq_plain; exact do_move rfl; exact rfl
    apply seq_plain; exact do_indexAddrS rfl rfl rfl (by exact idx_nat (by omega)); exact rfl
    apply seq_plain; exact do_load rfl (by exact ext_get_old (by assumption) (by assumption)) rfl (by exact bz_get (by assumption) (by omega)); exact rfl
    apply seq_plain; exact do_lenS rfl rfl rfl; exact rfl
    apply seq_plain; exact do_move rfl; exact rfl
    apply seq_nil
    apply ct_block
    apply ct_loop
    rw [hx] at hex hxl hdx ⊢
    simp only at hex hxl hdx ⊢
    obtain ⟨g, hg⟩ : ∃ g : Int → Option (List Int), g = fun d => if Plan.clash (Mt m) out d = true then none else Plan.ext (dsL ds) (Plan.clash (Mt m)) f (out ++ [d]) := ⟨_, rfl⟩
    have e : Plan.ext (dsL ds) (Plan.clash (Mt m)) (f + 1) out = lx.findSome? g := by rw [hg, ← hdx]; rfl
    rw [e]
    clear hx hdx hcd0 hgD0 hcl0 har0 e
    refine lt_meas (α := Nat × AHeap × Nat) (fun a => [(0, Pt0 bo), (2, Pt0 bp), (3, Pt0 be), (5, I out.length), (20, .slice px lx.length cx), (21, I lx.length), (22, I a.1)]) (fun a => ext a.2.1 a.2.2 [])
      (fun a => a.1 ≤ lx.length ∧ ESt H0 a.2.1 bo be fv out ∧ h.fresh ≤ a.2.1.fresh ∧ (lx.take a.1).findSome? g = none) (fun a => lx.length - a.1) (fun a ha ih => ?_) (0, h, h.fresh) ⟨by omega, S, Nat.le_refl _, by simp⟩ (by repeat (first | exact sub_nil | apply sub_cons rfl)) (.refl _)
    obtain ⟨j, hp, lo⟩ := a
    obtain ⟨hjl, S2, hfr, hno⟩ := ha
    simp only at S2 hfr hno ih hjl ⊢
    have ih' := fun j' h2 lo2 a1 a2 a3 a4 a5 => ih (j', h2, lo2) a1 ⟨a2, a3, a4, a5⟩
    simp only at ih'
    clear ih
    obtain ⟨pa, ca, hcl, har⟩ := S2.cell
    have hcp := S2.cl
    have hbx := S2.ext0 _ _ hbox
    have hgm2 := S2.ext0 _ _ hgm
    apply ct_seq
    apply ct_region
    apply seq_plain; exact do_binInt rfl rfl rfl trivial; exact rfl
    apply seq_nil
    apply ct_seq
    refine ct_cond rfl (fun h1 => ?_) (fun h1 => ?_)
    · simp only [decide_eq_true_eq, Int.ofNat_lt] at h1
      obtain ⟨b5, o5, cs5, z5, s5, ro5, rfl, hg5, hw5⟩ := hex.out (by intro e; rw [e] at h1; simp at h1)
      have hg52 := S2.ext0 _ _ hg5
      apply ct_skip
      apply ct_seq
      apply ct_block
      apply ct_seq
      apply ct_region
      apply seq_plain; exact do_indexAddrS rfl rfl rfl (by exact idx_nat (by omega)); exact rfl
      apply seq_plain; exact do_load rfl (by exact ext_get_old (by assumption) (by assumption)) rfl (by exact pt_sl0 (by assumption) (by omega)); exact rfl
      apply seq_plain; exact do_assign rfl; exact rfl
      apply seq_nil
      apply ct_seq
      apply ct_region
      apply seq_plain; exact do_assign rfl; exact rfl
      apply seq_nil
      apply ct_seq
      apply ct_seq
      apply ct_region
      apply seq_plain; exact do_load rfl (by exact ext_get_old (by assumption) (by assumption)) rfl (by exact rfl); exact rfl
      apply seq_plain; exact do_lenS rfl rfl rfl; exact rfl
      apply seq_plain; exact do_move rfl; exact rfl
      apply seq_nil
      apply ct_block
      apply ct_loop
      obtain ⟨d, hdj⟩ : ∃ d, d = lx[j] := ⟨_, rfl⟩
      rw [← hdj]
      refine lt_up (fun k => [(0, Pt0 bo), (2, Pt0 bp), (3, Pt0 be), (5, I out.length), (7, I d), (8, .bool (clashTo m out out.length d k)), (20, .slice (some ⟨b5, o5, none⟩) lx.length cx), (21, I lx.length), (22, I j), (26, .slice pa out.length ca), (27, I out.length), (28, I k)]) (fun _ => True) out.length (fun k hk _ ih2 => ?_) 0 (by omega) trivial (by repeat (first | exact sub_nil | apply sub_cons rfl))
      apply ct_seq
      apply ct_region
      apply seq_plain; exact do_binInt rfl rfl rfl trivial; exact rfl
      apply seq_nil
      apply ct_seq
      refine ct_cond rfl (fun h2 => ?_) (fun h2 => ?_)
      · simp only [decide_eq_true_eq, Int.ofNat_lt] at h2
        have hkm : k < m.length := by omega
        have enk := nth_eq h2
        obtain ⟨b6, o6, cs6, z6, s6, ro6, rfl, hg6, hw6⟩ := har.slAt.out (by intro e; rw [e] at h2; simp at h2)
        apply ct_skip
        apply ct_seq
        apply ct_block
        apply ct_seq
        apply ct_region
        apply seq_plain; exact do_move rfl; exact rfl
        apply seq_plain; exact do_indexAddrS rfl rfl rfl (by exact idx_nat (by omega)); exact rfl
        apply seq_plain; exact do_load rfl (by exact ext_get_old (by assumption) (by assumption)) rfl (by exact pt_sl0 (by assumption) (by omega)); exact rfl
        apply seq_plain; exact do_assign rfl; exact rfl
        apply seq_plain; exact do_assign rfl; exact rfl
        apply seq_nil
        apply ct_draw (by assumption); decide +kernel
        apply sd_plain (hfree := rfl); intro _; exact do_move rfl; exact rfl
        apply sd_plain (hfree := rfl); intro _; exact do_move rfl; exact rfl
        refine sd_J [(0, Pt0 bo), (2, Pt0 bp), (3, Pt0 be), (5, I out.length), (7, I d), (8, .bool (clashTo m out out.length d (k + 1))), (20, .slice (some ⟨b5, o5, none⟩) lx.length cx), (21, I lx.length), (22, I j), (26, .slice (some ⟨b6, o6, none⟩) out.length ca), (27, I out.length), (28, I k)] (h := ext hp lo []) ?_ ?_
        · rw [clashTo_succ, Mt_eq him hkm, enk]
          refine sd_gsplit rfl rfl (fun u1 => ?_) (fun u1 => ?_)
          · rw [u1]
            apply sd_passed (hg := rfl) (hl := rfl) (hb := rfl); exact rfl
            apply sd_passed (hg := rfl) (hl := rfl) (hb := rfl); exact rfl
            apply sd_passed (hg := rfl) (hl := rfl) (hb := rfl); exact rfl
            apply sd_passed (hg := rfl) (hl := rfl) (hb := rfl); exact rfl
            apply sd_passedU (hg := rfl) (hl := rfl); exact rfl
            apply sd_passedU (hg := rfl) (hl := rfl); exact rfl
            apply sd_passedU (hg := rfl) (hl := rfl); exact rfl
            apply sd_passedU (hg := rfl) (hl := rfl); exact rfl
            apply sd_passedU (hg := rfl) (hl := rfl); exact rfl
            apply sd_passedU (hg := rfl) (hl := rfl); exact rfl
            apply sd_passedU (hg := rfl) (hl := rfl); exact rfl
            apply sd_passedU (hg := rfl) (hl := rfl); exact rfl
            apply sd_passedU (hg := rfl) (hl := rfl); exact rfl
            apply sd_passedU (hg := rfl) (hl := rfl); exact rfl
            apply sd_passedU (hg := rfl) (hl := rfl); exact rfl
            apply sd_passed (hg := rfl) (hl := rfl) (hb := rfl); exact rfl
            apply sd_plain (hfree := rfl); intro _; exact do_pick_t rfl rfl; exact rfl
            apply sd_plain (hfree := rfl); intro _; exact do_assign rfl; exact rfl
            apply sd_nil
            exact jp_of (by repeat (first | exact sub_nil | apply sub_cons rfl))
          · rw [u1]
            apply sd_guard (hfree := rfl) (hg := rfl) (hl := rfl); intro _; exact do_move rfl; exact rfl
            apply sd_guard (hfree := rfl) (hg := rfl) (hl := rfl); intro _; exact do_move rfl; exact rfl
            apply sd_guard (hfree := rfl) (hg := rfl) (hl := rfl); intro _; exact do_binInt rfl rfl rfl trivial; exact rfl
            apply sd_guard (hfree := rfl) (hg := rfl) (hl := rfl); intro _; exact do_move rfl; exact rfl
            refine sd_gsplit rfl rfl (fun u2 => ?_) (fun u2 => ?_)
            · have u2 : (nth out k == d) = true := u2
              rw [u2]
              apply sd_guard (hfree := rfl) (hg := rfl) (hl := rfl); intro _; exact do_fieldAddr rfl rfl; exact rfl
              apply sd_guardL (hfree := rfl) (hg := rfl) (hl := rfl); exact do_load rfl (by exact ext_get_old (by assumption) (by assumption)) rfl (by exact rfl); exact rfl
              apply sd_guard (hfree := rfl) (hg := rfl) (hl := rfl); intro _; exact do_move rfl; exact rfl
              apply sd_guard (hfree := rfl) (hg := rfl) (hl := rfl); intro _; exact do_indexAddrS rfl rfl rfl (by exact idx_nat (by omega)); exact rfl
              apply sd_guardL (hfree := rfl) (hg := rfl) (hl := rfl); exact do_load rfl (by exact ext_get_old (by assumption) (by assumption)) rfl (by exact pt_sl (by assumption) (by omega)); exact rfl
              apply sd_guard (hfree := rfl) (hg := rfl) (hl := rfl); intro _; exact do_fieldAddr rfl rfl; exact rfl
              apply sd_guardL (hfree := rfl) (hg := rfl) (hl := rfl); exact do_load rfl (by exact ext_get_old (by assumption) (by assumption)) rfl (by exact rfl); exact rfl
              apply sd_guard (hfree := rfl) (hg := rfl) (hl := rfl); intro _; exact do_move rfl; exact rfl
              apply sd_guard (hfree := rfl) (hg := rfl) (hl := rfl); intro _; exact do_indexAddrS rfl rfl rfl (by exact idx_nat (by omega)); exact rfl
              apply sd_guardL (hfree := rfl) (hg := rfl) (hl := rfl); exact do_load rfl (by exact ext_get_old (by assumption) (by assumption)) rfl (by exact pt_sl (by assumption) (by omega)); exact rfl
              apply sd_gcall (hg := rfl) (hl := rfl) (ht := rfl); exact meets111; exact rfl
              apply sd_guard (hfree := rfl) (hg := rfl) (hl := rfl); intro _; exact do_pick_t rfl rfl; exact rfl
              apply sd_plain (hfree := rfl); intro _; exact do_pick_f rfl rfl; exact rfl
              apply sd_plain (hfree := rfl); intro _; exact do_assign rfl; exact rfl
              apply sd_nil
              exact jp_of (by repeat (first | exact sub_nil | apply sub_cons rfl))
            · have u2 : (nth out k == d) = false := u2
              rw [u2]
              apply sd_passed (hg := rfl) (hl := rfl) (hb := rfl); exact rfl
              apply sd_passed (hg := rfl) (hl := rfl) (hb := rfl); exact rfl
              apply sd_passed (hg := rfl) (hl := rfl) (hb := rfl); exact rfl
              apply sd_passed (hg := rfl) (hl := rfl) (hb := rfl); exact rfl
              apply sd_passed (hg := rfl) (hl := rfl) (hb := rfl); exact rfl
              apply sd_passed (hg := rfl) (hl := rfl) (hb := rfl); exact rfl
              apply sd_passed (hg := rfl) (hl := rfl) (hb := rfl); exact rfl
              apply sd_passed (hg := rfl) (hl := rfl) (hb := rfl); exact rfl
              apply sd_passed (hg := rfl) (hl := rfl) (hb := rfl); exact rfl
              apply sd_passed (hg := rfl) (hl := rfl) (hb := rfl); exact rfl
              apply sd_passed (hg := rfl) (hl := rfl) (hb := rfl); exact rfl
              apply sd_guard (hfree := rfl) (hg := rfl) (hl := rfl); intro _; exact do_pick_f rfl rfl; exact rfl
              apply sd_plain (hfree := rfl); intro _; exact do_pick_f rfl rfl; exact rfl
              apply sd_plain (hfree := rfl); intro _; exact do_assign rfl; exact rfl
              apply sd_nil
              exact jp_of (by repeat (first | exact sub_nil | apply sub_cons rfl))
        apply ct_region
        apply seq_plain; exact do_succ rfl (by omega); exact rfl
        apply seq_plain; exact do_move rfl; exact rfl
        apply seq_nil
        exact lt_sub (by repeat (first | exact sub_nil | apply sub_cons rfl)) (ih2 (k + 1) (by omega) (by omega) trivial)
      · simp only [decide_eq_false_iff_not, Int.ofNat_lt] at h2
        have hk' : k = out.length := by omega
        subst hk'
        clear ih2
        rw [clashTo_all]
        apply ct_exit
        apply exit_eq; exact rfl
        apply ct_seq
        apply ct_seq
        apply ct_region
        apply seq_plain; exact do_move rfl; exact rfl
        apply seq_nil
        refine ct_cond rfl (fun h3 => ?_) (fun h3 => ?_)
        · apply ct_exit
          apply exit_eq; exact rfl
          apply ct_region
          apply seq_plain; exact do_succ rfl (by omega); exact rfl
          apply seq_plain; exact do_move rfl; exact rfl
          apply seq_nil
          exact lt_sub (by repeat (first | exact sub_nil | apply sub_cons rfl)) (ih' (j + 1) hp lo (by omega) (by omega) S2 hfr (findSome_next h1 hno (by rw [← hdj, hg]; simp only [h3, if_true])))
        · apply ct_skip
          apply ct_seq
          apply ct_region
          apply seq_plain; exact do_load rfl (by exact ext_get_old (by assumption) (by assumption)) rfl (by exact rfl); exact rfl
          apply seq_plain; exact do_move rfl; exact rfl
          apply seq_newS; exact do_buildSlice rfl rfl rfl rfl rfl rfl rfl; exact rfl
          refine seq_JX (ds := []) (α := AHeap × Nat) (fun a => [(0, Pt0 bo), (2, Pt0 bp), (3, Pt0 be), (5, I out.length), (20, .slice (some ⟨b5, o5, none⟩) lx.length cx), (21, I lx.length), (22, I j)]) (fun a => ext a.1 a.2 []) (fun a => ESt H0 a.1 bo be fv (out ++ [d]) ∧ hp.fresh ≤ a.1.fresh) ?_ (fun a ha => ?_)
          · have hpv : pa = none → out.length = 0 ∧ ca = 0 := fun hpn => by
              rcases har with ⟨_, h, h'⟩ | ⟨ba, arr, h, _⟩
              · rw [h]; exact ⟨rfl, h'⟩
              · rw [hpn] at h; cases h
            have hodd : ∀ b, b % 2 = 1 ∨ b < H0.fresh ∨ b = be → ∀ c, own c = true → H0.fresh ≤ c → c ≠ be → b ≠ c := by
              intro b hb c h1 h2 h3 e
              have h1 := own_iff.1 h1
              omega
            rcases har with ⟨rfl, rfl, rfl⟩ | ⟨ba, arr, rfl, ho1, ho2, ho3, ho4, ho5, hga, hal, hle, htk⟩
            · refine seq_newS (do_append0 (n := 1) rfl rfl rfl rfl rfl rfl (ext_get_new rfl) rfl (Nat.le_of_ble_eq_true rfl) (Nat.ne_of_beq_eq_false rfl) (Nat.ne_of_beq_eq_false rfl) (by omega)) rfl ?_
              refine seq_plain0 (do_store rfl rfl (ext_get_old hcp hcl) rfl rfl S2.bo1) (seq_nil ?_)
              refine jx_hq (ext (hp.put bo (.cells [.slice (some ⟨nb hp 1, 0, none⟩) 1 1] 0 false false)) (min lo bo) [some (.cells [I d] 1 false false), some (.cells [I d] 1 true false)], _) ⟨S2.step hc0 hcp rfl (fun b y _ hy => hy) rfl (.inr ⟨nb hp 1, [d], rfl, nb_own _, ?_, ?_, ?_, ?_, ext_get_new (k := 1) rfl, rfl, by simp, by simp⟩), ?_⟩ (by repeat (first | exact sub_nil | apply sub_cons rfl)) ((ext_put_old S2.bo1 S2.bo3 hcp _).trans (hq_base ?_))
              · have := S2.ge; have := nb_ge (H := hp) 1; omega
              · rw [ext_fresh]; exact nb_lt (by simp)
              · have := S2.bo3; have := nb_ge (H := hp) 1; omega
              · have := S2.be3; have := nb_ge (H := hp) 1; omega
              · rw [ext_fresh]; exact nb_ge (H := hp) _
              · show min (min lo bo) (hp.put bo _).fresh ≤ _
                rw [ext_fresh]; have := nb_ge (H := hp) 2; simp only [nb, AHeap.fresh, AHeap.put, AHeap.kill] at *; simp; omega
            · rcases Nat.lt_or_ge out.length ca with hlt | hge
              · have hcp1 := closed_put (x := .cells ((arr.set out.length d).map I) 1 true false) hcp ho1 ho3
                have hcp2 := closed_put (x := .cells [.slice (some ⟨ba, 0, none⟩) (out.length + 1) ca] 0 false false) hcp1 S2.bo1 S2.bo3
                refine seq_putOd hcp ho1 ho3 (do_appendIn (n := 1) rfl rfl rfl rfl rfl rfl (ext_get_new rfl) rfl (ext_get_old hcp hga) ho1 rfl (by exact (show writeAt (arr.map I) (0 + out.length * 1) [I d] = some ((arr.set out.length d).map I) from by rw [Nat.zero_add, Nat.mul_one]; exact writeAt_ints (by omega))) (Nat.le_trans (Nat.mul_le_mul_right _ (by omega : 2 * (out.length + 1) + 1000 ≤ 3000)) (Nat.le_of_ble_eq_true rfl)) (Nat.ne_of_beq_eq_false rfl) (Nat.ne_of_beq_eq_false rfl) (by omega) (by omega)) rfl ?_
                refine seq_plain0 (do_store rfl rfl (ext_get_old hcp1 (put_ne ho1 (Ne.symm ho4) hcl)) rfl rfl S2.bo1) (seq_nil ?_)
                refine jx_hq (ext ((hp.put ba (.cells ((arr.set out.length d).map I) 1 true false)).put bo (.cells [.slice (some ⟨ba, 0, none⟩) (out.length + 1) ca] 0 false false)) (min (min lo ba) bo) [some (.cells [I d] 1 false false)], _) ⟨S2.step hc0 hcp1 rfl (fun b y hb hy => put_ne ho1 (hodd b hb ba ho1 ho2 ho5) hy) (by simp) (.inr ⟨ba, arr.set out.length d, rfl, ho1, ho2, ?_, ho4, ho5, ext_get_old hcp2 (put_ne S2.bo1 ho4 (put_same ho1)), by simpa using hal, by simp; omega, by simpa using take_set_snoc (by omega) htk⟩), ?_⟩ (by repeat (first | exact sub_nil | apply sub_cons rfl)) ((ext_put_old (H := hp.put ba (.cells ((arr.set out.length d).map I) 1 true false)) S2.bo1 (by exact S2.bo3) hcp1 _).trans (hq_base ?_))
                · rw [ext_fresh]; have := nb_ge (H := hp) 1; simp only [nb, AHeap.fresh, AHeap.put] at *; simp; omega
                · rw [ext_fresh]; exact nb_ge (H := hp) _
                · show min (min (min lo ba) bo) hp.fresh ≤ _
                  rw [ext_fresh]; have := nb_ge (H := hp) 1; simp only [nb, AHeap.fresh, AHeap.put] at *; simp; omega
              · have e1 : arr = out := by rw [← htk, List.take_of_length_le (by omega)]
                subst e1
                have e2 : ca = arr.length := by omega
                subst e2
                have hcp1 := closed_kill hcp ho1
                refine seq_pushO hcp ho1 ho3 (do_append1 (n := 1) rfl rfl rfl rfl rfl rfl (ext_get_new rfl) rfl (ext_get_old hcp hga) (by rw [List.length_map]; exact (Nat.mul_one _).symm) ho1 rfl (Nat.le_trans (Nat.mul_le_mul_right _ (by omega : 2 * (arr.length + 1) + 1000 ≤ 3000)) (Nat.le_of_ble_eq_true rfl)) (Nat.ne_of_beq_eq_false rfl) (Nat.ne_of_beq_eq_false rfl) (by omega)) rfl ?_
                refine seq_plain0 (do_store rfl rfl (ext_get_old hcp1 (kill_ne ho1 (Ne.symm ho4) hcl)) rfl rfl S2.bo1) (seq_nil ?_)
                refine jx_hq (ext ((hp.kill ba).put bo (.cells [.slice (some ⟨nb hp 1, 0, none⟩) (arr.length + 1) (arr.length + 1)] 0 false false)) (min (min lo ba) bo) [some (.cells [I d] 1 false false), some (.cells (arr.map I ++ [I d]) 1 true false)], _) ⟨S2.step hc0 hcp1 rfl (fun b y hb hy => kill_ne ho1 (hodd b hb ba ho1 ho2 ho5) hy) (by simp) (.inr ⟨nb hp 1, arr ++ [d], rfl, nb_own _, ?_, ?_, ?_, ?_, by rw [List.map_append]; exact ext_get_new (k := 1) rfl, by simp, by simp, List.take_of_length_le (by simp)⟩), ?_⟩ (by repeat (first | exact sub_nil | apply sub_cons rfl)) ((ext_put_old (H := hp.kill ba) S2.bo1 (by exact S2.bo3) hcp1 _).trans (hq_base ?_))
                · have := S2.ge; have := nb_ge (H := hp) 1; omega
                · rw [ext_fresh]; exact nb_lt (by simp)
                · have := S2.bo3; have := nb_ge (H := hp) 1; omega
                · have := S2.be3; have := nb_ge (H := hp) 1; omega
                · rw [ext_fresh]; exact nb_ge (H := hp) _
                · show min (min (min lo ba) bo) hp.fresh ≤ _
                  rw [ext_fresh]; have := nb_ge (H := hp) 2; simp only [nb, AHeap.fresh, AHeap.put, AHeap.kill] at *; simp; omega
          · obtain ⟨hp2, lo2⟩ := a
            obtain ⟨S3, hfr3⟩ := ha
            simp only at S3 hfr3 ⊢
            have hfn := S3.func
            have hcp2 := S3.cl
            subst hfv
            apply ct_seq
            apply ct_seq
            apply ct_region
            apply seq_plain; exact do_load rfl (by exact ext_get_old (by assumption) (by assumption)) rfl (by exact rfl); exact rfl
            refine seq_callQ rfl (ihf (S3.wrap hc0) (by simp; omega)) rfl fun v h' hR => ?_
            obtain ⟨out3, hv, S4, hfr4⟩ := hR
            have hfr4' : hp2.fresh ≤ h'.fresh := Nat.le_trans (by rw [ext_fresh]; exact nb_ge _) hfr4
            have hgd : g d = Plan.ext (dsL ds) (Plan.clash (Mt m)) f (out ++ [d]) := by rw [hg]; simp only [h3, Bool.false_eq_true, if_false]
            refine seq_nil (ct_to sub_refl (hq_base S4.low) ?_)
            cases hr : Plan.ext (dsL ds) (Plan.clash (Mt m)) f (out ++ [d]) with
            | some sol =>
              rw [hr] at hv hgd
              obtain ⟨rfl, rfl⟩ := hv
              refine ct_cond_t rfl rfl ?_
              apply ct_seq
              apply ct_region
              apply seq_plain; exact do_assign rfl; exact rfl
              apply seq_nil
              apply ct_ret
              refine fin_id rfl ⟨out3, ?_, ?_, ?_⟩
              · rw [findSome_at h1 hno (by rw [← hdj]; exact hgd)]
                exact ⟨rfl, rfl⟩
              · exact (S4.wrap hc0).lower (by show min (min h'.low h'.fresh) h.low ≤ _; rw [ext_fresh]; have := nb_ge (H := h') ([] : List (Option ABlk)).length; omega)
              · show h.fresh ≤ (ext h' h'.low []).fresh
                rw [ext_fresh]; have := nb_ge (H := h') ([] : List (Option ABlk)).length; omega
            | none =>
              rw [hr] at hv hgd
              obtain ⟨rfl, rfl⟩ := hv
              refine ct_cond_f rfl rfl ?_
              obtain ⟨pa3, ca3, hcl3, har3⟩ := S4.cell
              have hcp3 := S4.cl
              have h3n : pa3 ≠ none := by
                rcases har3 with ⟨_, h, _⟩ | ⟨ba, arr, h, _⟩
                · simp at h
                · rw [h]; simp
              have h3s : ∀ a, pa3 = some a → a.spot = none := fun a ha => by
                rcases har3 with ⟨_, h, _⟩ | ⟨ba, arr, h, _⟩
                · simp at h
                · rw [h] at ha; cases ha; rfl
              have h3c : out.length ≤ ca3 := by
                rcases har3 with ⟨_, h, _⟩ | ⟨ba, arr, _, _, _, _, _, _, _, _, h, _⟩
                · simp at h
                · simp at h; omega
              apply ct_skip
              apply ct_region
              apply seq_plain; exact do_load rfl (by exact ext_get_old (by assumption) (by assumption)) rfl (by exact rfl); exact rfl
              apply seq_plain; exact do_move rfl; exact rfl
              apply seq_plain; exact do_sliceTo (i := out.length) rfl rfl rfl (fun h => absurd h h3n) h3s h3c; exact rfl
              refine seq_putOC hcp3 S4.bo1 S4.bo3 (do_store rfl rfl (ext_get_old hcp3 hcl3) rfl rfl S4.bo1) ?_
              apply ct_region
              apply seq_plain; exact do_succ rfl (by omega); exact rfl
              apply seq_plain; exact do_move rfl; exact rfl
              apply seq_nil
              have hcx := closed_put (x := .cells [.slice pa3 out.length ca3] 0 false false) hcp3 S4.bo1 S4.bo3
              have S5 := S4.step (lo := min h'.low bo) (L := []) hc0 hcp3 rfl (fun b y _ hy => hy) (ca := ca3) (pa := pa3) rfl (har3.drop1 (by rw [ext_fresh]; exact nb_ge (H := h') 0) (fun b y hb hy => ext_get_old hcx (put_ne S4.bo1 hb hy)))
              have tf : h'.fresh ≤ (ext (h'.put bo (.cells [.slice pa3 out.length ca3] 0 false false)) (min h'.low bo) []).fresh := by rw [ext_fresh]; exact nb_ge (H := h') 0
              exact lt_to (by repeat (first | exact sub_nil | apply sub_cons rfl)) (hq_base (by show min (min h'.low bo) h'.fresh ≤ _; omega)) (ih' (j + 1) _ _ (by omega) (by omega) S5 (by omega) (findSome_next h1 hno (by rw [← hdj]; exact hgd)))
    · simp only [decide_eq_false_iff_not, Int.ofNat_lt] at h1
      rw [List.take_of_length_le (by omega)] at hno
      apply ct_exit
      apply exit_eq; exact rfl
      apply ct_seq
      apply ct_region
      apply seq_plain; exact do_assign rfl; exact rfl
      apply seq_nil
      apply ct_ret
      refine fin_id rfl ⟨out, ?_, ?_, ?_⟩
      · rw [hno]
        exact ⟨rfl, rfl⟩
      · exact (S2.wrap hc0).lower (by show min (min lo hp.fresh) h.low ≤ _; rw [ext_fresh]; have := nb_ge (H := hp) ([] : List (Option ABlk)).length; omega)
      · show h.fresh ≤ (ext hp lo []).fresh
        rw [ext_fresh]; have := nb_ge (H := hp) ([] : List (Option ABlk)).length; omega
end Go.Proofs.YtiggikjbknoohaaGreatDoor
