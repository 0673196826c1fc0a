/- Contracts: a posting behind others. -/
import Derived.Test.YtfjihdlpohljbaaGreatHkA
import Derived.Test.YtfjihdlpohljbaaGreatSxW
import Derived.Test.YtfjihdlpohljbaaGreatHkC
noncomputable section
namespace Go.Proofs.YtfjihdlpohljbaaGreat
open Go Go.Den
set_option maxRecDepth 100000

structure Po where
  debit : ByteArray
  credit : ByteArray
  amt : Int
def po (x : Po) : List Value := [.string x.debit, .string x.credit, I x.amt]
theorem po_len (x : Po) : (po x).length = 3 := rfl
/-- the accounts: cash, deposits, sales, forfeits -/
def acc : Nat → ByteArray
  | 0 => ⟨#[99, 97, 115, 104]⟩
  | 1 => ⟨#[100, 101, 112, 111, 115, 105, 116, 115]⟩
  | 2 => ⟨#[115, 97, 108, 101, 115]⟩
  | _ => ⟨#[102, 111, 114, 102, 101, 105, 116, 115]⟩
theorem acc_pt {d n : Nat} (h : d < 4) : pt false n [.string (acc 0), .string (acc 1), .string (acc 2), .string (acc 3)] (0 + d * 1) = some (.string (acc d)) := by
  match d, h with
  | 0, _ => rfl
  | 1, _ => rfl
  | 2, _ => rfl
  | 3, _ => rfl
theorem appB {n : Nat} (h : n < 1000000000) (by' : Nat) (h2 : by' ≤ 48) : (2 * (n + 1) + 1000) * by' ≤ 2 ^ 48 :=
  Nat.le_trans (Nat.mul_le_mul (by omega : _ ≤ 3000000000) h2) (by decide)
theorem post_no {H : AHeap} {p : Option Addr} {n c : Nat} {d k a : Int} (hp : ∀ x, p = some x → (x.block % 2 = 1 ∨ x.block < H.fresh) ∧ x.spot = none) (ha : a ≤ 0) :
    Ret Tryz.prog 35 [.slice p n c, I d, I k, I a] H (.slice p n c) H := by
  refine fn_start Tryz.func35 rfl rfl rfl fun hc => ?_
  apply ct_seq
  apply ct_region
  apply seq_plain; exact do_assign rfl; exact rfl
  apply seq_nil
  apply ct_seq
  apply ct_seq
  apply ct_region
  apply seq_plain; exact do_move rfl; exact rfl
  apply seq_plain; exact do_binInt rfl rfl rfl trivial; exact rfl
  apply seq_nil
  refine ct_cond_t rfl (decide_eq_true ha) ?_
  apply ct_seq
  apply ct_region
  apply seq_plain; exact do_move rfl; exact rfl
  apply seq_plain; exact do_assign rfl; exact rfl
  apply seq_nil
  apply ct_ret
  refine fin_keep hc rfl ?_ ⟨rfl, rfl⟩
  cases p with
  | none => rfl
  | some x =>
    obtain ⟨h1, h2⟩ := hp x rfl
    obtain ⟨b, o, s⟩ := x
    simp only at h1 h2
    subst h2
    simp [packA, renV, renOf_old h1]
theorem post_nil {H : AHeap} {d k : Nat} {a : Int} (hd : d < 4) (hk : k < 4) (ha : ¬ a ≤ 0) :
    Ret Tryz.prog 35 [.slice none 0 0, I d, I k, I a] H (.slice (some ⟨H.fresh, 0, none⟩) 1 1) (H.add (.cells (po ⟨acc d, acc k, a⟩) 3 true false)) := by
  refine fn_start Tryz.func35 rfl rfl rfl fun hc => ?_
  apply ct_seq
  apply ct_region
  apply seq_plain; exact do_assign rfl; exact rfl
  apply seq_nil
  apply ct_seq
  apply ct_seq
  apply ct_region
  apply seq_plain; exact do_move rfl; exact rfl
  apply seq_plain; exact do_binInt rfl rfl rfl trivial; exact rfl
  apply seq_nil
  refine ct_cond_f rfl (decide_eq_false ha) ?_
  apply ct_skip
  apply ct_seq
  apply ct_region
  apply seq_plain; exact do_build rfl rfl rfl rfl; exact rfl
  apply seq_newP; exact do_alloc rfl rfl; exact rfl
  apply seq_putC (hc := by assumption); rotate_left; exact do_store rfl rfl (by exact ext_get_new rfl) rfl rfl (nb_own _); rotate_left; exact Nat.le_of_ble_eq_true rfl
  apply ct_seq
  apply ct_draw (by assumption); decide +kernel
  apply sd_plain (hfree := rfl); intro _; exact do_move rfl; exact rfl
  apply sd_plain (hfree := rfl); intro _; exact do_move rfl; exact rfl
  apply sd_plain (hfree := rfl); intro _; exact do_indexAddrA rfl rfl rfl (by exact idx_nat (by omega)); exact rfl
  apply sd_look (hfree := rfl); exact do_load rfl (by exact ext_get_new rfl) rfl (by exact acc_pt (by assumption)); exact rfl
  apply sd_plain (hfree := rfl); intro _; exact do_move rfl; exact rfl
  apply sd_plain (hfree := rfl); intro _; exact do_indexAddrA rfl rfl rfl (by exact idx_nat (by omega)); exact rfl
  apply sd_look (hfree := rfl); exact do_load rfl (by exact ext_get_new rfl) rfl (by exact acc_pt (by assumption)); exact rfl
  apply sd_plain (hfree := rfl); intro _; exact do_move rfl; exact rfl
  apply sd_plain (hfree := rfl); intro _; exact do_build rfl rfl rfl rfl; exact rfl
  apply sd_newS (hfree := rfl); exact do_buildSlice rfl rfl rfl rfl rfl rfl rfl; exact rfl
  refine sd_newSS rfl (by decide +kernel) hc (do_append0 (new := po ⟨acc d, acc k, a⟩) rfl rfl rfl rfl rfl rfl (ext_get_new rfl) rfl (Nat.le_of_ble_eq_true rfl) (Nat.ne_of_beq_eq_false rfl) (Nat.ne_of_beq_eq_false rfl) (by decide)) rfl ?_
  apply sd_plain (hfree := rfl); intro _; exact do_assign rfl; exact rfl
  apply sd_nil
  apply ct_ret
  exact fin_one (k := 2) hc rfl rfl rfl (by simp [packA, renV, renOf_one ⟨own_iff.1 (nb_own 2), nb_ge 2⟩]) ⟨rfl, rfl⟩
theorem post_app {H : AHeap} {b d k : Nat} {a : Int} {l : List Po} (hb : own b = true) (hlt : b < H.fresh) (hg : H.get b = some (.cells (l.flatMap po) 3 true false)) (hl : l.length < 1000000000) (hd : d < 4) (hk : k < 4) (ha : ¬ a ≤ 0) :
    Ret Tryz.prog 35 [.slice (some ⟨b, 0, none⟩) l.length l.length, I d, I k, I a] H (.slice (some ⟨H.fresh, 0, none⟩) (l.length + 1) (l.length + 1)) ((H.kill b).add (.cells (l.flatMap po ++ po ⟨acc d, acc k, a⟩) 3 true false)) := by
  refine fn_start Tryz.func35 rfl rfl rfl fun hc => ?_
  apply ct_seq
  apply ct_region
  apply seq_plain; exact do_assign rfl; exact rfl
  apply seq_nil
  apply ct_seq
  apply ct_seq
  apply ct_region
  apply seq_plain; exact do_move rfl; exact rfl
  apply seq_plain; exact do_binInt rfl rfl rfl trivial; exact rfl
  apply seq_nil
  refine ct_cond_f rfl (decide_eq_false ha) ?_
  apply ct_skip
  apply ct_seq
  apply ct_region
  apply seq_plain; exact do_build rfl rfl rfl rfl; exact rfl
  apply seq_newP; exact do_alloc rfl rfl; exact rfl
  apply seq_putC (hc := by assumption); rotate_left; exact do_store rfl rfl (by exact ext_get_new rfl) rfl rfl (nb_own _); rotate_left; exact Nat.le_of_ble_eq_true rfl
  apply ct_seq
  apply ct_draw (by assumption); decide +kernel
  apply sd_plain (hfree := rfl); intro _; exact do_move rfl; exact rfl
  apply sd_plain (hfree := rfl); intro _; exact do_move rfl; exact rfl
  apply sd_plain (hfree := rfl); intro _; exact do_indexAddrA rfl rfl rfl (by exact idx_nat (by omega)); exact rfl
  apply sd_look (hfree := rfl); exact do_load rfl (by exact ext_get_new rfl) rfl (by exact acc_pt (by assumption)); exact rfl
  apply sd_plain (hfree := rfl); intro _; exact do_move rfl; exact rfl
  apply sd_plain (hfree := rfl); intro _; exact do_indexAddrA rfl rfl rfl (by exact idx_nat (by omega)); exact rfl
  apply sd_look (hfree := rfl); exact do_load rfl (by exact ext_get_new rfl) rfl (by exact acc_pt (by assumption)); exact rfl
  apply sd_plain (hfree := rfl); intro _; exact do_move rfl; exact rfl
  apply sd_plain (hfree := rfl); intro _; exact do_build rfl rfl rfl rfl; exact rfl
  apply sd_newS (hfree := rfl); exact do_buildSlice rfl rfl rfl rfl rfl rfl rfl; exact rfl
  refine sd_pushO (b := b) rfl (by decide +kernel) hc hb hlt (do_append1 (new := po ⟨acc d, acc k, a⟩) rfl rfl rfl rfl rfl rfl (ext_get_new rfl) rfl (ext_get_old hc hg) (len_flat po_len l) hb rfl (appB hl _ (Nat.le_of_ble_eq_true rfl)) (Nat.ne_of_beq_eq_false rfl) (Nat.ne_of_beq_eq_false rfl) (by decide)) rfl ?_
  apply sd_plain (hfree := rfl); intro _; exact do_assign rfl; exact rfl
  apply sd_nil
  apply ct_ret
  refine fin_putsL (k := 2) ((Puts.refl hc).kill hb hlt) rfl rfl ?_ (by simp [packA, renV, renOf_one ⟨own_iff.1 (nb_own 2), nb_ge 2⟩]) ⟨rfl, rfl⟩
  rw [List.all_append, flat_all (fun _ => rfl)]; rfl
/-- a posting more, if its amount is above 0 -/
def postL (l : List Po) (x : Po) : List Po := if x.amt ≤ 0 then l else l ++ [x]
theorem postL_len (l : List Po) (x : Po) : (postL l x).length ≤ l.length + 1 := by
  unfold postL
  split
  · omega
  · simp
/-- what a call of post leaves -/
structure Posted (f : FuncId) (args : List Value) (H : AHeap) (L : List (Option ABlk)) (K : Nat) (l : List Po) (v' : Value) (K' : Nat) (L' : List (Option ABlk)) (l' : List Po) : Prop where
  ret : ∃ h', Ret Tryz.prog f args (ext H H.fresh L) v' h' ∧ HQ h' (ext H H.fresh L')
  lst : LstI H L' 3 po K' v' l'
  len : L.length ≤ L'.length
  keep : ∀ j, j < L.length → (l ≠ [] → j ≠ K) → L'[j]? = L[j]?
  last : l' ≠ [] → K' = K ∧ l' = l ∨ L.length ≤ K'
theorem posted {f : FuncId} {H : AHeap} (hc : Closed H) {L : List (Option ABlk)} {K : Nat} {l : List Po} {v : Value} {rest : List Value} {x : Po} (hv : LstI H L 3 po K v l)
    (h1 : ∀ {H : AHeap} {p : Option Addr} {n c : Nat}, (∀ x, p = some x → (x.block % 2 = 1 ∨ x.block < H.fresh) ∧ x.spot = none) → x.amt ≤ 0 → Ret Tryz.prog f (.slice p n c :: rest) H (.slice p n c) H)
    (h2 : ∀ {H : AHeap}, ¬ x.amt ≤ 0 → Ret Tryz.prog f (.slice none 0 0 :: rest) H (.slice (some ⟨H.fresh, 0, none⟩) 1 1) (H.add (.cells (po x) 3 true false)))
    (h3 : ∀ {H : AHeap} {b : Nat}, own b = true → b < H.fresh → H.get b = some (.cells (l.flatMap po) 3 true false) → ¬ x.amt ≤ 0 → Ret Tryz.prog f (.slice (some ⟨b, 0, none⟩) l.length l.length :: rest) H (.slice (some ⟨H.fresh, 0, none⟩) (l.length + 1) (l.length + 1)) ((H.kill b).add (.cells (l.flatMap po ++ po x) 3 true false))) :
    ∃ v' K' L', Posted f (v :: rest) H L K l v' K' L' (postL l x) := by
  by_cases ha : x.amt ≤ 0
  · refine ⟨v, K, L, ?_, by unfold postL; rw [if_pos ha]; exact hv, Nat.le_refl _, fun _ _ _ => rfl, fun _ => .inl ⟨rfl, by unfold postL; rw [if_pos ha]⟩⟩
    rcases hv.out with ⟨_, rfl⟩ | ⟨hne, rfl, hL⟩
    · exact ⟨_, h1 (fun _ h => by cases h) ha, .refl _⟩
    · refine ⟨_, h1 (fun y hy => ?_) ha, .refl _⟩
      cases hy
      refine ⟨.inr ?_, rfl⟩
      rw [ext_fresh]
      have := hv.lt hne
      simp only [nb]; omega
  · have e : postL l x = l ++ [x] := by unfold postL; rw [if_neg ha]
    rw [e]
    rcases hv.out with ⟨rfl, rfl⟩ | ⟨hne, rfl, hL⟩
    · refine ⟨.slice (some ⟨nb H L.length, 0, none⟩) 1 1, L.length, L ++ [some (.cells (po x) 3 true false)], ⟨_, h2 ha, by rw [ext_add]; exact .refl _⟩, ⟨.inr ⟨by simp, rfl, ?_⟩⟩, by simp, fun j hj _ => List.getElem?_append_left hj, fun _ => .inr (Nat.le_refl _)⟩
      simp
    · have hlt := hv.lt hne
      refine ⟨.slice (some ⟨nb H L.length, 0, none⟩) (l.length + 1) (l.length + 1), L.length, L.set K none ++ [some (.cells (l.flatMap po ++ po x) 3 true false)], ?_, ⟨.inr ⟨by simp, by simp, ?_⟩⟩, by simp, fun j hj hjk => ?_, fun _ => .inr (Nat.le_refl _)⟩
      · have := h3 (H := ext H H.fresh L) (b := nb H K) (nb_own _) (by rw [ext_fresh]; simp only [nb]; omega) (ext_get_new hL) ha
        rw [ext_fresh] at this
        exact ⟨_, this, ext_push hc hlt _⟩
      · have e2 : (L.set K none).length = L.length := List.length_set
        rw [← e2, List.flatMap_append]
        simp
      · rw [List.getElem?_append_left (by rw [List.length_set]; exact hj), List.getElem?_set_ne (fun e => hjk hne e.symm)]
theorem post_c {H : AHeap} (hc : Closed H) {L : List (Option ABlk)} {K : Nat} {l : List Po} {v : Value} {d k : Nat} {a : Int} (hv : LstI H L 3 po K v l) (hl : l.length < 1000000000) (hd : d < 4) (hk : k < 4) :
    ∃ v' K' L', Posted 35 [v, I d, I k, I a] H L K l v' K' L' (postL l ⟨acc d, acc k, a⟩) :=
  posted hc hv (fun h1 h2 => post_no h1 h2) (fun h => post_nil hd hk h) (fun h1 h2 h3 h4 => post_app h1 h2 h3 hl hd hk h4)
end Go.Proofs.YtfjihdlpohljbaaGreat
