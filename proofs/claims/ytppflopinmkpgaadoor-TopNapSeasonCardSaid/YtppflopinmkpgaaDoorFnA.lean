/- Contracts of small functions: errors, numbers in bounds, searches in lists. -/
import Derived.Test.YtppflopinmkpgaaDoorBase
import Derived.Test.YtppflopinmkpgaaDoorSxA
noncomputable section
namespace Go.Proofs.YtppflopinmkpgaaDoor
open Go Go.Den
set_option maxRecDepth 10000

abbrev I (n : Int) : Value := .int .i64 n
def whenL (b : Bool) (e : Int) : Int := if b then e else 0
def firstL (l : List Int) : Int := (l.find? (fun e => decide (e ≠ 0))).getD 0
def outL (n a b : Int) : Bool := decide (n < a ∨ n > b)
abbrev i1 (x : Int) : List Value := [I x]

theorem when85 {H : AHeap} {b : Bool} {e : Int} : Ret Tryd.prog 32 [.bool b, I e] H (I (whenL b e)) H := by
  refine fn_start Tryd.func32 rfl rfl rfl fun hc => ?_
  apply ct_seq
  apply ct_region
  apply seq_plain; exact do_assign rfl; exact rfl
  apply seq_nil
  apply ct_seq
  apply ct_seq
  apply ct_region
  apply seq_plain; exact do_move rfl; exact rfl
  apply seq_nil
  refine ct_cond rfl (fun hb => ?_) (fun hb => ?_)
  · apply ct_seq
    apply ct_region
    apply seq_plain; exact do_move rfl; exact rfl
    apply seq_plain; exact do_assign rfl; exact rfl
    apply seq_nil
    apply ct_ret
    refine fin_flat hc rfl rfl ⟨?_, rfl⟩
    rw [hb]; rfl
  · apply ct_skip
    apply ct_seq
    apply ct_region
    apply seq_plain; exact do_assign rfl; exact rfl
    apply seq_nil
    apply ct_ret
    refine fin_flat hc rfl rfl ⟨?_, rfl⟩
    rw [hb]; rfl

theorem within89 {H : AHeap} {n a b : Int} : Ret Tryd.prog 52 [I n, I a, I b] H (I (whenL (outL n a b) 3)) H := by
  refine fn_start Tryd.func52 rfl rfl rfl fun hc => ?_
  apply ct_seq
  apply ct_region
  apply seq_plain; exact do_assign rfl; exact rfl
  apply seq_nil
  apply ct_seq
  apply ct_region
  apply seq_plain; exact do_move rfl; exact rfl
  apply seq_plain; exact do_move rfl; exact rfl
  apply seq_plain; exact do_binInt rfl rfl rfl trivial; exact rfl
  apply seq_plain; exact do_move rfl; exact rfl
  refine seq_gsplit rfl rfl (fun hb => ?_) (fun hb => ?_)
  · apply seq_passed (hd := rfl) (hl := rfl) (hb := rfl); exact rfl
    apply seq_passed (hd := rfl) (hl := rfl) (hb := rfl); exact rfl
    apply seq_passed (hd := rfl) (hl := rfl) (hb := rfl); exact rfl
    apply seq_plain; exact do_pick_t rfl rfl; exact rfl
    apply seq_call (ht := rfl); exact when85; exact rfl
    apply seq_plain; exact do_assign rfl; exact rfl
    apply seq_nil
    apply ct_ret
    refine fin_flat hc rfl rfl ⟨?_, rfl⟩
    simp at hb
    simp [packA, whenL, outL, hb]
  · apply seq_guard (hd := rfl) (hl := rfl); exact do_move rfl; exact rfl
    apply seq_guard (hd := rfl) (hl := rfl); exact do_move rfl; exact rfl
    apply seq_guard (hd := rfl) (hl := rfl); exact do_binInt rfl rfl rfl trivial; exact rfl
    apply seq_plain; exact do_pick_f rfl rfl; exact rfl
    apply seq_call (ht := rfl); exact when85; exact rfl
    apply seq_plain; exact do_assign rfl; exact rfl
    apply seq_nil
    apply ct_ret
    refine fin_flat hc rfl rfl ⟨?_, rfl⟩
    simp at hb
    have : ¬ n < a := by omega
    simp [packA, whenL, outL, this]

theorem checkTeams145 {H : AHeap} {n : Int} : Ret Tryd.prog 15 [I n] H (I (whenL (outL n 2 24) 3)) H := by
  refine fn_start Tryd.func15 rfl rfl rfl fun hc => ?_
  apply ct_seq
  apply ct_region
  apply seq_plain; exact do_assign rfl; exact rfl
  apply seq_nil
  apply ct_seq
  apply ct_region
  apply seq_plain; exact do_move rfl; exact rfl
  apply seq_call (ht := rfl); exact within89; exact rfl
  apply seq_plain; exact do_assign rfl; exact rfl
  apply seq_nil
  apply ct_ret
  exact fin_flat hc rfl rfl ⟨rfl, rfl⟩

def unknownL (n k : Int) : Bool := decide (k < 0 ∨ k ≥ n)

theorem known1_194 {H : AHeap} {k n : Int} {b z : Nat} {s ro : Bool} (hb : H.get b = some (.cells [I n] z s ro)) :
    Ret Tryd.prog 62 [I k, .pointer (some ⟨b, 0, none⟩)] H (.bool (unknownL n k)) H := by
  refine fn_start Tryd.func62 rfl rfl rfl fun hc => ?_
  apply ct_seq
  apply ct_region
  apply seq_plain; exact do_assign rfl; exact rfl
  apply seq_nil
  apply ct_seq
  apply ct_region
  apply seq_plain; exact do_move rfl; exact rfl
  apply seq_plain; exact do_binInt rfl rfl rfl trivial; exact rfl
  apply seq_plain; exact do_move rfl; exact rfl
  refine seq_gsplit rfl rfl (fun hb => ?_) (fun hb => ?_)
  · apply seq_passed (hd := rfl) (hl := rfl) (hb := rfl); exact rfl
    apply seq_passed (hd := rfl) (hl := rfl) (hb := rfl); exact rfl
    apply seq_passed (hd := rfl) (hl := rfl) (hb := rfl); exact rfl
    apply seq_plain; exact do_pick_t rfl rfl; exact rfl
    apply seq_plain; exact do_assign rfl; exact rfl
    apply seq_nil
    apply ct_ret
    refine fin_flat hc rfl rfl ⟨?_, rfl⟩
    simp at hb
    simp [packA, unknownL, hb]
  · apply seq_guard (hd := rfl) (hl := rfl); exact do_move rfl; exact rfl
    apply seq_guard (hd := rfl) (hl := rfl); exact do_load rfl (by exact ext_get_old (by assumption) (by assumption)) rfl (by exact rfl); exact rfl
    apply seq_guard (hd := rfl) (hl := rfl); exact do_binInt rfl rfl rfl trivial; exact rfl
    apply seq_plain; exact do_pick_f rfl rfl; exact rfl
    apply seq_plain; exact do_assign rfl; exact rfl
    apply seq_nil
    apply ct_ret
    refine fin_flat hc rfl rfl ⟨?_, rfl⟩
    simp at hb
    have : ¬ k < 0 := by omega
    simp [packA, unknownL, this]

theorem indexFunc234 {H : AHeap} {q : Option Addr} {c g : Nat} {caps : List Value} {l : List Int} {p : Int → Bool} (hs : SlAt H 1 i1 q l) (hn : l.length < 1000000000000)
    (hp : ∀ x ∈ l, ∀ H', Ext H H' → Ret Tryd.prog g (I x :: caps) H' (.bool (p x)) H') :
    Ret Tryd.prog 78 [.slice q l.length c, .func (.func g) #[] ⟨caps⟩] H (I (idxOf p l 0)) H := by
  refine fn_start Tryd.func78 rfl rfl rfl fun hc => ?_
  apply ct_seq
  apply ct_region
  apply seq_plain; exact do_assign rfl; exact rfl
  apply seq_nil
  apply ct_seq
  apply ct_seq
  apply ct_region
  apply seq_plain; exact do_move rfl; exact rfl
  apply seq_plain; exact do_lenS rfl rfl rfl; exact rfl
  apply seq_plain; exact do_move rfl; exact rfl
  apply seq_nil
  apply ct_block
  apply ct_loop
  refine lt_up (fun i => [(0, .slice q l.length c), (1, .func (.func g) #[] ⟨caps⟩), (6, .slice q l.length c), (7, I l.length), (8, I i)]) (fun i => ∀ j (hj : j < l.length), j < i → p l[j] = false) l.length (fun i hi hJ ih => ?_) 0 (by omega) (by intros; omega) (by repeat (first | exact sub_nil | apply sub_cons rfl))
  apply ct_seq
  apply ct_region
  apply seq_plain; exact do_binInt rfl rfl rfl trivial; exact rfl
  apply seq_nil
  apply ct_seq
  refine ct_cond rfl (fun hb => ?_) (fun hb => ?_)
  · simp only [decide_eq_true_eq, Int.ofNat_lt] at hb
    obtain ⟨b, o, cs, z, s, ro, rfl, hg, hw⟩ := hs.out (by intro e; rw [e] at hb; simp at hb)
    apply ct_skip
    apply ct_seq
    apply ct_block
    apply ct_seq
    apply ct_region
    apply seq_plain; exact do_move rfl; exact rfl
    apply seq_plain; exact do_assign rfl; exact rfl
    apply seq_nil
    apply ct_seq
    apply ct_region
    apply seq_plain; exact do_move rfl; exact rfl
    apply seq_plain; exact do_move rfl; exact rfl
    apply seq_plain; exact do_move rfl; exact rfl
    apply seq_plain; exact do_indexAddrS rfl rfl rfl (by exact idx_nat (by omega)); exact rfl
    apply seq_plain; exact do_load rfl (by exact ext_get_old (by assumption) (by assumption)) rfl (by exact pt_sl0 (by assumption) (by omega)); exact rfl
    apply seq_call (ht := rfl); exact hp _ (List.getElem_mem hb) _ (ext_Ext hc); exact rfl
    apply seq_nil
    refine ct_cond rfl (fun h2 => ?_) (fun h2 => ?_)
    · apply ct_seq
      apply ct_region
      apply seq_plain; exact do_move rfl; exact rfl
      apply seq_plain; exact do_assign rfl; exact rfl
      apply seq_nil
      apply ct_ret
      refine fin_flat hc rfl rfl ⟨?_, rfl⟩
      rw [idxOf_at hb 0 hJ h2]; simp [packA]
    · apply ct_skip
      apply ct_region
      apply seq_plain; exact do_succ rfl (by omega); exact rfl
      apply seq_plain; exact do_move rfl; exact rfl
      apply seq_nil
      refine lt_sub ?_ (ih (i + 1) (by omega) (by omega) fun j hj hji => ?_)
      · (repeat (first | exact sub_nil | apply sub_cons rfl))
      · rcases Nat.lt_or_ge j i with h | h
        · exact hJ j hj h
        · have : j = i := by omega
          subst this; exact h2
  · simp only [decide_eq_false_iff_not, Int.ofNat_lt] at hb
    apply ct_exit
    apply exit_eq; exact rfl
    apply ct_seq
    apply ct_region
    apply seq_plain; exact do_assign rfl; exact rfl
    apply seq_nil
    apply ct_ret
    refine fin_flat hc rfl rfl ⟨?_, rfl⟩
    rw [idxOf_none 0 fun j hj => hJ j hj (by omega)]; rfl

theorem containsFunc189 {H : AHeap} {q : Option Addr} {c g : Nat} {caps : List Value} {l : List Int} {p : Int → Bool} (hs : SlAt H 1 i1 q l) (hn : l.length < 1000000000000)
    (hp : ∀ x ∈ l, ∀ H', Ext H H' → Ret Tryd.prog g (I x :: caps) H' (.bool (p x)) H') :
    Ret Tryd.prog 65 [.slice q l.length c, .func (.func g) #[] ⟨caps⟩] H (.bool (l.any p)) H := by
  refine fn_start Tryd.func65 rfl rfl rfl fun hc => ?_
  apply ct_seq
  apply ct_region
  apply seq_plain; exact do_assign rfl; exact rfl
  apply seq_nil
  apply ct_seq
  apply ct_region
  apply seq_plain; exact do_move rfl; exact rfl
  apply seq_plain; exact do_move rfl; exact rfl
  apply seq_call (ht := rfl); exact indexFunc234 (l := l) (p := p) (hs.ext (ext_Ext hc)) hn fun x hx H' h' => hp x hx H' ((ext_Ext hc).trans h'); exact rfl
  apply seq_plain; exact do_binInt rfl rfl rfl trivial; exact rfl
  apply seq_plain; exact do_assign rfl; exact rfl
  apply seq_nil
  apply ct_ret
  refine fin_flat hc rfl rfl ⟨?_, rfl⟩
  rw [← idxOf_any l 0]; rfl

theorem has106 {H : AHeap} {q : Option Addr} {c g : Nat} {caps : List Value} {l : List Int} {p : Int → Bool} (hs : SlAt H 1 i1 q l) (hn : l.length < 1000000000000)
    (hp : ∀ x ∈ l, ∀ H', Ext H H' → Ret Tryd.prog g (I x :: caps) H' (.bool (p x)) H') :
    Ret Tryd.prog 38 [.slice q l.length c, .func (.func g) #[] ⟨caps⟩] H (.bool (l.any p)) H := by
  refine fn_start Tryd.func38 rfl rfl rfl fun hc => ?_
  apply ct_seq
  apply ct_region
  apply seq_plain; exact do_assign rfl; exact rfl
  apply seq_nil
  apply ct_seq
  apply ct_region
  apply seq_plain; exact do_move rfl; exact rfl
  apply seq_plain; exact do_move rfl; exact rfl
  apply seq_call (ht := rfl); exact containsFunc189 (l := l) (p := p) (hs.ext (ext_Ext hc)) hn fun x hx H' h' => hp x hx H' ((ext_Ext hc).trans h'); exact rfl
  apply seq_plain; exact do_assign rfl; exact rfl
  apply seq_nil
  apply ct_ret
  exact fin_flat hc rfl rfl ⟨rfl, rfl⟩

theorem known125 {H : AHeap} {q : Option Addr} {c : Nat} {n : Int} {l : List Int} (hs : SlAt H 1 i1 q l) (hn : l.length < 1000000000000) :
    Ret Tryd.prog 31 [I n, .slice q l.length c] H (I (whenL (l.any (unknownL n)) 10)) H := by
  refine fn_start Tryd.func31 rfl rfl rfl fun hc => ?_
  apply ct_seq
  apply ct_region
  apply seq_newP; exact do_box rfl rfl rfl; exact rfl
  apply seq_plain; exact do_assign rfl; exact rfl
  apply seq_nil
  apply ct_seq
  apply ct_region
  apply seq_plain; exact do_move rfl; exact rfl
  apply seq_plain; exact do_makeFunc rfl rfl; exact rfl
  apply seq_call (ht := rfl); exact has106 (l := l) (p := unknownL n) (hs.ext (ext_Ext hc)) hn fun x hx H' h' => known1_194 (h' _ _ (ext_get_new rfl)); exact rfl
  apply seq_call (ht := rfl); exact when85; exact rfl
  apply seq_plain; exact do_assign rfl; exact rfl
  apply seq_nil
  apply ct_ret
  exact fin_flat hc rfl rfl ⟨rfl, rfl⟩

theorem firstL_at {l : List Int} {i : Nat} (hi : i < l.length) (h : ∀ j (hj : j < l.length), j < i → l[j] = 0) (hne : l[i] ≠ 0) : firstL l = l[i] := by
  have : l.find? (fun e => decide (e ≠ 0)) = some l[i] := by
    rw [List.find?_eq_some_iff_getElem]
    refine ⟨by simpa using hne, i, hi, rfl, fun j hj => ?_⟩
    simp [h j (by omega) hj]
  simp only [firstL, this]; rfl
theorem firstL_none {l : List Int} (h : ∀ j (hj : j < l.length), l[j] = 0) : firstL l = 0 := by
  have : l.find? (fun e => decide (e ≠ 0)) = none := by
    rw [List.find?_eq_none]
    intro x hx
    obtain ⟨j, hj, rfl⟩ := List.getElem_of_mem hx
    simp [h j hj]
  simp only [firstL, this]; rfl

theorem first84 {H : AHeap} {q : Option Addr} {c : Nat} {l : List Int} (hs : SlAt H 1 i1 q l) (hn : l.length < 1000000000000) :
    Ret Tryd.prog 19 [.slice q l.length c] H (I (firstL l)) H := by
  refine fn_start Tryd.func19 rfl rfl rfl fun hc => ?_
  apply ct_seq
  apply ct_region
  apply seq_plain; exact do_assign rfl; exact rfl
  apply seq_nil
  apply ct_seq
  apply ct_seq
  apply ct_region
  apply seq_plain; exact do_move rfl; exact rfl
  apply seq_plain; exact do_lenS rfl rfl rfl; exact rfl
  apply seq_plain; exact do_move rfl; exact rfl
  apply seq_nil
  apply ct_block
  apply ct_loop
  refine lt_up (fun i => [(5, .slice q l.length c), (6, I l.length), (7, I i)]) (fun i => ∀ j (hj : j < l.length), j < i → l[j] = 0) l.length (fun i hi hJ ih => ?_) 0 (by omega) (by intros; omega) (by repeat (first | exact sub_nil | apply sub_cons rfl))
  apply ct_seq
  apply ct_region
  apply seq_plain; exact do_binInt rfl rfl rfl trivial; exact rfl
  apply seq_nil
  apply ct_seq
  refine ct_cond rfl (fun hb => ?_) (fun hb => ?_)
  · simp only [decide_eq_true_eq, Int.ofNat_lt] at hb
    obtain ⟨b, o, cs, z, s, ro, rfl, hg, hw⟩ := hs.out (by intro e; rw [e] at hb; simp at hb)
    apply ct_skip
    apply ct_seq
    apply ct_block
    apply ct_seq
    apply ct_region
    apply seq_plain; exact do_indexAddrS rfl rfl rfl (by exact idx_nat (by omega)); exact rfl
    apply seq_plain; exact do_load rfl (by exact ext_get_old (by assumption) (by assumption)) rfl (by exact pt_sl0 (by assumption) (by omega)); exact rfl
    apply seq_plain; exact do_assign rfl; exact rfl
    apply seq_nil
    apply ct_seq
    apply ct_region
    apply seq_plain; exact do_move rfl; exact rfl
    apply seq_plain; exact do_binInt rfl rfl rfl trivial; exact rfl
    apply seq_nil
    refine ct_cond rfl (fun h2 => ?_) (fun h2 => ?_)
    · apply ct_seq
      apply ct_region
      apply seq_plain; exact do_move rfl; exact rfl
      apply seq_plain; exact do_assign rfl; exact rfl
      apply seq_nil
      apply ct_ret
      refine fin_flat hc rfl rfl ⟨?_, rfl⟩
      rw [firstL_at hb hJ (by simpa using h2)]; rfl
    · apply ct_skip
      apply ct_region
      apply seq_plain; exact do_succ rfl (by omega); exact rfl
      apply seq_plain; exact do_move rfl; exact rfl
      apply seq_nil
      refine lt_sub ?_ (ih (i + 1) (by omega) (by omega) fun j hj hji => ?_)
      · (repeat (first | exact sub_nil | apply sub_cons rfl))
      · rcases Nat.lt_or_ge j i with h | h
        · exact hJ j hj h
        · have : j = i := by omega
          subst this; simpa using h2
  · simp only [decide_eq_false_iff_not, Int.ofNat_lt] at hb
    apply ct_exit
    apply exit_eq; exact rfl
    apply ct_seq
    apply ct_region
    apply seq_plain; exact do_assign rfl; exact rfl
    apply seq_nil
    apply ct_ret
    refine fin_flat hc rfl rfl ⟨?_, rfl⟩
    rw [firstL_none fun j hj => hJ j hj (by omega)]; rfl
end Go.Proofs.YtppflopinmkpgaaDoor
