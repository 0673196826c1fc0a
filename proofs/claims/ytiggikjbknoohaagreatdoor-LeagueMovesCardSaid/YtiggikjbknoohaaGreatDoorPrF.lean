/- Contracts: one of the divisions has it. -/
import Derived.Test.YtiggikjbknoohaaGreatDoorPrE
import Derived.Test.YtiggikjbknoohaaGreatDoorFnC
noncomputable section
namespace Go.Proofs.YtiggikjbknoohaaGreatDoor
open Go Go.Den
set_option maxRecDepth 100000

theorem indexD_c {H : AHeap} {q : Option Addr} {c g : Nat} {caps : List Value} {l : List Sz} {p : Sz → Bool} (hs : SlAt H 1 sz q l) (hn : l.length < 1000000000000)
    (hp : ∀ x ∈ l, ∀ H', Ext H H' → Ret Tryz.prog g (.slice x.p x.l.length x.c :: caps) H' (.bool (p x)) H') :
    Ret Tryz.prog 233 [.slice q l.length c, .func (.func g) #[] ⟨caps⟩] H (I (idxOf p l 0)) H := by
  refine fn_start Tryz.func233 rfl rfl rfl fun hc => ?_
  apply ct_seq
  apply ct_region
  apply seq_plain; exact do_assign rfl; exact rfl
  apply seq_nil
  apply ct_seq
  apply ct_seq
  apply ct_region
  apply seq_plain; exact do_move rfl; exact rfl
  apply seq_plain; exact do_lenS rfl rfl rfl; exact rfl
  apply seq_plain; exact do_move rfl; exact rfl
  apply seq_nil
  apply ct_block
  apply ct_loop
  refine lt_up (fun i => [(0, .slice q l.length c), (1, .func (.func g) #[] ⟨caps⟩), (7, I l.length), (8, I i)]) (fun i => ∀ j (hj : j < l.length), j < i → p l[j] = false) l.length (fun i hi hJ ih => ?_) 0 (by omega) (by intros; omega) (by repeat (first | exact sub_nil | apply sub_cons rfl))
  apply ct_seq
  apply ct_region
  apply seq_plain; exact do_binInt rfl rfl rfl trivial; exact rfl
  apply seq_nil
  apply ct_seq
  refine ct_cond rfl (fun hb => ?_) (fun hb => ?_)
  · simp only [decide_eq_true_eq, Int.ofNat_lt] at hb
    obtain ⟨b, o, cs, z, s, ro, rfl, hg, hw⟩ := hs.out (by intro e; rw [e] at hb; simp at hb)
    apply ct_skip
    apply ct_seq
    apply ct_block
    apply ct_seq
    apply ct_region
    apply seq_plain; exact do_move rfl; exact rfl
    apply seq_plain; exact do_assign rfl; exact rfl
    apply seq_nil
    apply ct_seq
    apply ct_region
    apply seq_plain; exact do_move rfl; exact rfl
    apply seq_plain; exact do_move rfl; exact rfl
    apply seq_plain; exact do_move rfl; exact rfl
    apply seq_plain; exact do_indexAddrS rfl rfl rfl (by exact idx_nat (by omega)); exact rfl
    apply seq_plain; exact do_load rfl (by exact ext_get_old (by assumption) (by assumption)) rfl (by exact sz_get (by assumption) (by omega)); exact rfl
    apply seq_call (ht := rfl); exact hp _ (List.getElem_mem hb) _ (ext_Ext hc); exact rfl
    apply seq_nil
    refine ct_cond rfl (fun h2 => ?_) (fun h2 => ?_)
    · apply ct_seq
      apply ct_region
      apply seq_plain; exact do_move rfl; exact rfl
      apply seq_plain; exact do_assign rfl; exact rfl
      apply seq_nil
      apply ct_ret
      refine fin_flat hc rfl rfl ⟨?_, rfl⟩
      rw [idxOf_at hb 0 hJ h2]; simp [packA]
    · apply ct_skip
      apply ct_region
      apply seq_plain; exact do_succ rfl (by omega); exact rfl
      apply seq_plain; exact do_move rfl; exact rfl
      apply seq_nil
      refine lt_sub ?_ (ih (i + 1) (by omega) (by omega) fun j hj hji => ?_)
      · (repeat (first | exact sub_nil | apply sub_cons rfl))
      · rcases Nat.lt_or_ge j i with h | h
        · exact hJ j hj h
        · have : j = i := by omega
          subst this; exact h2
  · simp only [decide_eq_false_iff_not, Int.ofNat_lt] at hb
    apply ct_exit
    apply exit_eq; exact rfl
    apply ct_seq
    apply ct_region
    apply seq_plain; exact do_assign rfl; exact rfl
    apply seq_nil
    apply ct_ret
    refine fin_flat hc rfl rfl ⟨?_, rfl⟩
    rw [idxOf_none 0 fun j hj => hJ j hj (by omega)]; rfl

theorem containsD_c {H : AHeap} {q : Option Addr} {c g : Nat} {caps : List Value} {l : List Sz} {p : Sz → Bool} (hs : SlAt H 1 sz q l) (hn : l.length < 1000000000000)
    (hp : ∀ x ∈ l, ∀ H', Ext H H' → Ret Tryz.prog g (.slice x.p x.l.length x.c :: caps) H' (.bool (p x)) H') :
    Ret Tryz.prog 188 [.slice q l.length c, .func (.func g) #[] ⟨caps⟩] H (.bool (l.any p)) H := by
  refine fn_start Tryz.func188 rfl rfl rfl fun hc => ?_
  apply ct_seq
  apply ct_region
  apply seq_plain; exact do_assign rfl; exact rfl
  apply seq_nil
  apply ct_seq
  apply ct_region
  apply seq_plain; exact do_move rfl; exact rfl
  apply seq_plain; exact do_move rfl; exact rfl
  apply seq_call (ht := rfl); exact indexD_c (l := l) (p := p) (hs.ext (ext_Ext hc)) hn fun x hx H' h' => hp x hx H' ((ext_Ext hc).trans h'); exact rfl
  apply seq_plain; exact do_binInt rfl rfl rfl trivial; exact rfl
  apply seq_plain; exact do_assign rfl; exact rfl
  apply seq_nil
  apply ct_ret
  refine fin_flat hc rfl rfl ⟨?_, rfl⟩
  rw [← idxOf_any l 0]; rfl

theorem hasD_c {H : AHeap} {q : Option Addr} {c g : Nat} {caps : List Value} {l : List Sz} {p : Sz → Bool} (hs : SlAt H 1 sz q l) (hn : l.length < 1000000000000)
    (hp : ∀ x ∈ l, ∀ H', Ext H H' → Ret Tryz.prog g (.slice x.p x.l.length x.c :: caps) H' (.bool (p x)) H') :
    Ret Tryz.prog 101 [.slice q l.length c, .func (.func g) #[] ⟨caps⟩] H (.bool (l.any p)) H := by
  refine fn_start Tryz.func101 rfl rfl rfl fun hc => ?_
  apply ct_seq
  apply ct_region
  apply seq_plain; exact do_assign rfl; exact rfl
  apply seq_nil
  apply ct_seq
  apply ct_region
  apply seq_plain; exact do_move rfl; exact rfl
  apply seq_plain; exact do_move rfl; exact rfl
  apply seq_call (ht := rfl); exact containsD_c (l := l) (p := p) (hs.ext (ext_Ext hc)) hn fun x hx H' h' => hp x hx H' ((ext_Ext hc).trans h'); exact rfl
  apply seq_plain; exact do_assign rfl; exact rfl
  apply seq_nil
  apply ct_ret
  exact fin_flat hc rfl rfl ⟨rfl, rfl⟩

/-- twice the number, as the program counts it -/
def twice (k : Int) : Int := IntKind.i64.wrap (2 * k)
theorem small_c {H : AHeap} {p : Option Addr} {n c b z : Nat} {s ro : Bool} {k : Int} (hg : H.get b = some (.cells [I k] z s ro)) :
    Ret Tryz.prog 102 [.slice p n c, .pointer (some ⟨b, 0, none⟩)] H (.bool (decide ((n : Int) < twice k))) H := by
  refine fn_start Tryz.func102 rfl rfl rfl fun hc => ?_
  apply ct_seq
  apply ct_region
  apply seq_plain; exact do_assign rfl; exact rfl
  apply seq_nil
  apply ct_seq
  apply ct_region
  apply seq_plain; exact do_move rfl; exact rfl
  apply seq_plain; exact do_lenS rfl rfl rfl; exact rfl
  apply seq_plain; exact do_load rfl (by exact ext_get_old (by assumption) (by assumption)) rfl (by exact rfl); exact rfl
  apply seq_plain; exact do_binInt rfl rfl rfl trivial; exact rfl
  apply seq_plain; exact do_binInt rfl rfl rfl trivial; exact rfl
  apply seq_plain; exact do_assign rfl; exact rfl
  apply seq_nil
  apply ct_ret
  exact fin_flat hc rfl rfl ⟨rfl, rfl⟩

theorem move_eq {d : List Sz} {k : Int} : firstL [whenL (outL k 0 24) 3, whenL (d.any fun x => decide ((x.l.length : Int) < twice k)) 2] = moveE (dl d) k := by
  unfold moveE
  rw [firstL_cons, firstL_cons (a := whenL (outL k 0 24) 3)]
  cases h : outL k 0 24 with
  | true => rfl
  | false =>
    have hk := outL_f h
    rw [if_neg (by simp [whenL]), if_neg (by simp [whenL])]
    have : (d.any fun x => decide ((x.l.length : Int) < twice k)) = ((dl d).any fun l => decide ((l.length : Int) < 2 * k)) := by
      unfold twice
      rw [wrap_i64 (by omega), List.any_map]; rfl
    rw [this]
end Go.Proofs.YtiggikjbknoohaaGreatDoor
