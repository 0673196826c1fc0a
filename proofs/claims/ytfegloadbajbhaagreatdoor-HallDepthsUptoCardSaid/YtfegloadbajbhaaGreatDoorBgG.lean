/- Contracts: Overbooked, and whether bookings fit. -/
import Derived.Test.YtfegloadbajbhaaGreatDoorBgE
import Derived.Test.YtfegloadbajbhaaGreatDoorBgF
noncomputable section
namespace Go.Proofs.YtfegloadbajbhaaGreatDoor
open Go Go.Den
set_option maxRecDepth 100000
/-- no kind has too many bookings -/
def fitB (t : List Tb) (l : List Bk) : Bool := decide ((ovV t l).1 = strB [])
/-- what Overbooked tells -/
def OvbV (t : List Tb) (l : List Bk) : ByteArray × Int × Int := if bothE t l ≠ 0 then (strB [], 0, bothE t l) else ((ovV t l).1, (ovV t l).2, whenL (fitB t l) 7)
set_option maxHeartbeats 4000000 in
theorem Overbooked_c {H : AHeap} {q r : Option Addr} {c d : Nat} {t : List Tb} {l : List Bk} (hs : SlAt H 2 tb q t) (hlow : LowS q c t.length) (hn : t.length < 1000000) (hr : SlAt H 4 bk r l) (hlow2 : LowS r d l.length) (hq : OldS H r) (hm : l.length < 1000000) :
    Ret Tryz.prog 29 [.slice q t.length c, .slice r l.length d] H (.tuple ⟨[.string (OvbV t l).1, I (OvbV t l).2.1, I (OvbV t l).2.2]⟩) H := by
  refine fn_start Tryz.func29 rfl rfl rfl fun hc => ?_
  apply ct_seq
  apply ct_region
  apply seq_plain; exact do_assign rfl; exact rfl
  apply seq_plain; exact do_assign rfl; exact rfl
  apply seq_plain; exact do_assign rfl; exact rfl
  apply seq_nil
  apply ct_seq
  apply ct_seq
  apply ct_region
  apply seq_plain; exact do_move rfl; exact rfl
  apply seq_plain; exact do_move rfl; exact rfl
  apply seq_call (ht := rfl); exact checkBoth_c (hs.ext (ext_Ext hc)) hlow (by omega) (hr.ext (ext_Ext hc)) hlow2 (by omega); exact rfl
  apply seq_plain; exact do_assign rfl; exact rfl
  apply seq_nil
  apply ct_seq
  apply ct_region
  apply seq_plain; exact do_move rfl; exact rfl
  apply seq_plain; exact do_binInt rfl rfl rfl trivial; exact rfl
  apply seq_nil
  refine ct_cond rfl (fun h1 => ?_) (fun h1 => ?_)
  · have h1 : bothE t l ≠ 0 := by simpa using h1
    have e : OvbV t l = (strB [], 0, bothE t l) := if_pos h1
    rw [e]
    apply ct_seq
    apply ct_region
    apply seq_plain; exact do_move rfl; exact rfl
    apply seq_plain; exact do_assign rfl; exact rfl
    apply seq_plain; exact do_assign rfl; exact rfl
    apply seq_plain; exact do_assign rfl; exact rfl
    apply seq_nil
    apply ct_ret
    exact fin_flat hc rfl rfl ⟨rfl, rfl⟩
  · have h1 : bothE t l = 0 := by simpa using h1
    have e : OvbV t l = ((ovV t l).1, (ovV t l).2, whenL (fitB t l) 7) := if_neg (by rw [h1]; simp)
    rw [e]
    apply ct_skip
    apply ct_seq
    apply ct_region
    apply seq_plain; exact do_move rfl; exact rfl
    apply seq_plain; exact do_move rfl; exact rfl
    apply seq_call (ht := rfl); exact overbooked_c (hs.ext (ext_Ext hc)) hn (hr.ext (ext_Ext hc)) hq.ext hm; exact rfl
    apply seq_plain; exact do_move rfl; exact rfl
    apply seq_plain; exact do_extract rfl rfl; exact rfl
    apply seq_plain; exact do_extract rfl rfl; exact rfl
    apply seq_plain; exact do_assign rfl; exact rfl
    apply seq_plain; exact do_assign rfl; exact rfl
    apply seq_nil
    apply ct_seq
    apply ct_region
    apply seq_plain; exact do_move rfl; exact rfl
    apply seq_plain; exact do_move rfl; exact rfl
    apply seq_plain; exact do_move rfl; exact rfl
    apply seq_plain; exact do_binStr rfl rfl rfl; exact rfl
    apply seq_call (ht := rfl); exact when85; exact rfl
    apply seq_plain; exact do_assign rfl; exact rfl
    apply seq_plain; exact do_assign rfl; exact rfl
    apply seq_plain; exact do_assign rfl; exact rfl
    apply seq_nil
    apply ct_ret
    refine fin_flat hc rfl rfl ⟨?_, rfl⟩
    unfold fitB
    rw [bytes_eq]; rfl
end Go.Proofs.YtfegloadbajbhaaGreatDoor
