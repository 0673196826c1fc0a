/- Contracts: rows are sorted by insertion. -/
import Derived.Test.YtfjihdlpohljbaaGreatSxM
import Derived.Test.YtfjihdlpohljbaaGreatSxK
import Derived.Test.YtfjihdlpohljbaaGreatSxQ
import Derived.Test.YtfjihdlpohljbaaGreatSxU
import Derived.Test.YtfjihdlpohljbaaGreatElJ
import Derived.Lib.SmallJoins
import Derived.Test.YtfjihdlpohljbaaGreatRows
noncomputable section
namespace Go.Proofs.YtfjihdlpohljbaaGreat
open Go Go.Den
set_option maxRecDepth 100000
theorem do_pred {P : Program} {l : EL} {h : AHeap} {x : Operand} {t t' : TypeId} {i : Nat} (hx : ev l x = some (.int .i64 ((i + 1 : Nat) : Int))) (hr : i < 9223372036854775807) : Does P l (.binOp .sub t x (.const (.int .i64 1)) t') h (.int .i64 (i : Int)) h := by
  have := do_sub (P := P) (l := l) (h := h) (t := t) (t' := t') (y := .const (.int .i64 1)) hx rfl (by omega)
  have e : ((i + 1 : Nat) : Int) - 1 = (i : Int) := by omega
  rw [e] at this
  exact this
end Go.Proofs.YtfjihdlpohljbaaGreat
/- HallSums: the contract over every input. -/
noncomputable section
namespace Go.Proofs.YtfjihdlpohljbaaGreat
open Go Go.Den Go.ChangeShapes Go.WideShapes Go.ChangeAt Go.RowKit Go.Deep
set_option maxRecDepth 10000
noncomputable instance : Inhabited Ra := ⟨⟨0, 0, 0⟩⟩
section
variable {H : Type} {enc : TypeId × Value → H} {W : World} {sp : Nat → Bool} {hd : Bool} {fuel : Nat}
end
theorem OpU.low {W : World} {α : Type} {f : α → List Value} {w : Nat} {v : Value} {o : Option BB} {p : Nat → Option Addr} {c : Nat} {l : List α} (h : OpU W f w v o p c l) (k : Nat) : LowS (p k) c l.length := ⟨h.cap, h.nil k, h.spot k⟩
end Go.Proofs.YtfjihdlpohljbaaGreat
/- The symbolic layer: lists in maps that grow; ranges over maps whose iterator lies anywhere. -/
noncomputable section
namespace Go.Den
section
variable {P : Program} {rd : Option Nat} {nt : Nat} {ops : Array Oper} {l : EL} {ds : List Nat} {K : St → Prop} {i : Nat} {r : List Oper} {o : Oper} {ty : TypeId} {pos : String} {af : Array Edge} {H : AHeap} {lo : Nat} {L : List (Option ABlk)} {L0 : List (Option ABlk)} {ow : List Nat} {N : List ABlk}
theorem sd_pushK [PC P] {d n c k : Nat} {op : Op} {y : ABlk} (hc : Closed H) (hfree : isFree op = false) (hser : seriesS ops i = true) (hlt : k < (L0 ++ N.map some).length)
    (hop : Does P l op (ext H lo (L0 ++ N.map some)) (.slice (some ⟨(ext H lo (L0 ++ N.map some)).fresh, 0, none⟩) n c) (((ext H lo (L0 ++ N.map some)).kill (nb H k)).add y)) (hd : Nat.blt d nt = true)
    (hk : SeqD P rd nt ops r (i + 1) ds ((d, .slice (some ⟨nb H (L0 ++ N.map some).length, 0, none⟩) n c) :: l) H lo ((L0 ++ N.map some).set k none ++ [some y]) [] [] K) : SeqD P rd nt ops (⟨some d, op, ty, pos, af, none⟩ :: r) i ds l H lo L0 ow N K := by
  rw [ext_fresh] at hop
  exact sd_ho fun ho => sd_seriesC (o := ⟨some d, op, ty, pos, af, none⟩) (v := .slice (some ⟨nb H (L0 ++ N.map some).length, 0, none⟩) n c) hfree hser (fun ad ha => opT_of ho rfl hop hd ha) (ext_push hc hlt y) rfl hc (Nat.le_refl _) (by rw [ext_fresh, ext_fresh]; simp only [nb, List.length_append, List.length_set]; omega) hk
end
end Go.Den
/- The symbolic layer: several lists that grow beside each other. -/
noncomputable section
namespace Go.Den
def Keeps (L L' : List (Option ABlk)) : Prop := ∀ (k : Nat) y, L[k]? = some (some y) → L'[k]? = some (some y)
theorem Keeps.app {L : List (Option ABlk)} (M : List (Option ABlk)) : Keeps L (L ++ M) := fun _ _ h => getApp h
structure LstI {α : Type} (H : AHeap) (L : List (Option ABlk)) (m : Nat) (f : α → List Value) (K : Nat) (v : Value) (l : List α) : Prop where
  out : (l = [] ∧ v = .slice none 0 0) ∨ (l ≠ [] ∧ v = .slice (some ⟨nb H K, 0, none⟩) l.length l.length ∧ L[K]? = some (some (.cells (l.flatMap f) m true false)))
section
variable {α : Type} {H : AHeap} {lo K k0 m : Nat} {L L' : List (Option ABlk)} {f : α → List Value} {l : List α} {v : Value}
theorem LstI.nil : LstI H L m f K (.slice none 0 0) ([] : List α) := ⟨.inl ⟨rfl, rfl⟩⟩
theorem LstI.lst (h : LstI H L m f K v l) (hk : k0 ≤ K) : Lst H L m f k0 v l := by
  rcases h.out with ⟨e1, e2⟩ | ⟨h1, h2, h3⟩
  · exact ⟨.inl ⟨e1, e2⟩⟩
  · exact ⟨.inr ⟨h1, K, hk, h2, h3⟩⟩
theorem LstI.keep (h : LstI H L m f K v l) (hk : l ≠ [] → L'[K]? = L[K]?) : LstI H L' m f K v l := by
  rcases h.out with ⟨e1, e2⟩ | ⟨h1, h2, h3⟩
  · exact ⟨.inl ⟨e1, e2⟩⟩
  · exact ⟨.inr ⟨h1, h2, by rw [hk h1]; exact h3⟩⟩
theorem LstI.keeps (h : LstI H L m f K v l) (hk : Keeps L L') : LstI H L' m f K v l := by
  rcases h.out with ⟨e1, e2⟩ | ⟨h1, h2, h3⟩
  · exact ⟨.inl ⟨e1, e2⟩⟩
  · exact ⟨.inr ⟨h1, h2, hk _ _ h3⟩⟩
theorem LstI.lt (h : LstI H L m f K v l) (hne : l ≠ []) : K < L.length := by
  rcases h.out with ⟨e1, _⟩ | ⟨_, _, h3⟩
  · exact absurd e1 hne
  · exact (List.getElem?_eq_some_iff.1 h3).1
theorem LstI.at_ (h : LstI H L m f K v l) (hne : l ≠ []) : v = .slice (some ⟨nb H K, 0, none⟩) l.length l.length ∧ L[K]? = some (some (.cells (l.flatMap f) m true false)) := by
  rcases h.out with ⟨e1, _⟩ | ⟨_, h2, h3⟩
  · exact absurd e1 hne
  · exact ⟨h2, h3⟩
end
section
variable {P : Program} {rd : Option Nat} {nt : Nat} {ops : Array Oper} {l : EL} {ds : List Nat} {K : St → Prop} {i : Nat} {r : List Oper} {o : Oper} {ty : TypeId} {pos : String} {af : Array Edge} {H : AHeap} {lo : Nat} {L : List (Option ABlk)} {α : Type} {f : α → List Value}
theorem seq_growI [PC P] {lst xs : List α} {m k0 d : Nat} {args : Array Operand} {tys : Array TypeId} {st : TypeId} {tr : List TypeId} {v : Value} {b o' c by' z : Nat} {ag k ro : Bool} {e : TypeId} {zs cs : List Value}
    (hc : Closed H) (hv : LstI H L m f k0 v lst) (hf : ∀ x, (f x).length = m) (hone : ∀ x, (f x).all oneCell = true)
    (ha : evs l args.toList = some [v, .slice (some ⟨b, o', none⟩) xs.length c]) (hty : tys.toList = st :: st :: tr)
    (hs : selOf P st = some (m, ag)) (he : (tyOf P st).map (·.und) = some (.slice e)) (hz : zerOf P e = some zs) (hby : (tyOf P e).map (·.bytes) = some by')
    (hb : (ext H lo L).get b = some (.cells cs z k ro)) (hn : sliceIn cs o' (xs.length * m) = some (xs.flatMap f)) (hxs : xs ≠ []) (h1 : (2 * (lst.length + xs.length) + 1000) * by' ≤ 2 ^ 48) (h2 : by' ≠ 0) (h3 : m ≠ 0) (hd : Nat.blt d nt = true)
    (hk : ∀ v' L', LstI H L' m f L.length v' (lst ++ xs) → (∀ j, j < L.length → (lst ≠ [] → j ≠ k0) → L'[j]? = L[j]?) → L'.length = L.length + 1 → SeqL P rd nt ops (o :: r) (i + 1) ⟨ofA ((d, v') :: l), ds, ext H lo L'⟩ K) :
    SeqL P rd nt ops (⟨some d, .call ⟨.builtin .append, args, tys⟩, ty, pos, af, none⟩ :: o :: r) i ⟨ofA l, ds, ext H lo L⟩ K := by
  have hx0 : 0 < xs.length := by cases xs with | nil => exact absurd rfl hxs | cons _ _ => simp
  have hall : (xs.flatMap f).all oneCell = true := by
    rw [List.all_eq_true]
    intro x hx
    obtain ⟨y, _, hy⟩ := List.mem_flatMap.1 hx
    exact List.all_eq_true.1 (hone y) x hy
  rcases hv.out with ⟨rfl, rfl⟩ | ⟨hne, rfl, hL⟩
  · refine seq_newS (do_append0 ha hty hs he hz hby hb hn (by simpa using h1) h2 h3 hx0) hd (hk _ _ ?_ (fun j hj _ => List.getElem?_append_left hj) (by simp))
    exact ⟨.inr ⟨by simpa using hxs, by simp, by simp⟩⟩
  · have hlt : k0 < L.length := (List.getElem?_eq_some_iff.1 hL).1
    refine seq_push hc hlt (do_append1 ha hty hs he hz hby hb hn (ext_get_new hL) (len_flat hf lst) (nb_own _) hall h1 h2 h3 hx0) hd (hk _ _ ?_ ?_ (by simp))
    · refine ⟨.inr ⟨by simp [hne], by simp, ?_⟩⟩
      have e2 : (L.set k0 none).length = L.length := List.length_set
      rw [← e2, List.flatMap_append]
      exact List.getElem?_concat_length
    · intro j hj hjk
      rw [List.getElem?_append_left (by rw [List.length_set]; exact hj), List.getElem?_set_ne (fun e => hjk hne e.symm)]
end
theorem ct_JE {P : Program} {rd : Option Nat} {nt : Nat} {ds : List Nat} {a b : Code} {s : St} {Qn : St → Prop} {Qe Qe' : Nat → St → Prop} {Qr Qr' : St → Prop} (E : EL) {h : AHeap} (h1 : CT P rd nt a s (JP E ds h) Qe' Qr') (h2 : CT P rd nt b ⟨ofA E, ds, h⟩ Qn Qe Qr) : CT P rd nt a s (fun s' => CT P rd nt b s' Qn Qe Qr) Qe' Qr' :=
  h1.mono (jp_ct h2) (fun _ _ h => h) (fun _ h => h)
theorem ct_JXE {P : Program} {rd : Option Nat} {nt : Nat} {ds : List Nat} {a b : Code} {s : St} {α : Type} {Qn : St → Prop} {Qe Qe' : Nat → St → Prop} {Qr Qr' : St → Prop} (E : α → EL) (hh : α → AHeap) (J : α → Prop) (h1 : CT P rd nt a s (JX E ds hh J) Qe' Qr') (h2 : ∀ a, J a → CT P rd nt b ⟨ofA (E a), ds, hh a⟩ Qn Qe Qr) : CT P rd nt a s (fun s' => CT P rd nt b s' Qn Qe Qr) Qe' Qr' :=
  h1.mono (jx_ct h2) (fun _ _ h => h) (fun _ h => h)
end Go.Den
/- LeagueCounts: the contract over every input of bulk at most 1048576. -/
noncomputable section
namespace Go.Proofs.YtfjihdlpohljbaaGreat
open Go Go.Den Go.ChangeShapes Go.WideShapes Go.ChangeAt Go.RowKit Go.Deep
set_option maxRecDepth 10000
noncomputable instance : Inhabited Ma := ⟨⟨0, 0, 0, 0, ByteArray.empty⟩⟩
theorem undTx : Tryz.prog.underlying 9 = some .string := rfl
theorem cellsTx : Tryz.prog.cellsOf 9 = 1 := by decide +kernel
theorem bulk_part {H : Type} {d : DataW H} {l : List (DataW H)} (h : d ∈ l) : Rows.uptoBulk d ≤ Rows.uptoBulkAll l := by
  induction l with
  | nil => cases h
  | cons x r ih =>
    simp only [Rows.uptoBulkAll]
    rcases List.mem_cons.1 h with e | e
    · subst e; omega
    · have := ih e; omega
theorem bulk_one {H : Type} (d : DataW H) : 1 ≤ Rows.uptoBulk d := by
  cases d with
  | lit l => cases l <;> simp [Rows.uptoBulk]
  | nil => simp [Rows.uptoBulk]
  | ptr d => simp [Rows.uptoBulk]
  | slice elems spare => simp [Rows.uptoBulk]
  | agg parts => simp [Rows.uptoBulk]
  | iface t d => simp [Rows.uptoBulk]
  | map entries => simp [Rows.uptoBulk]
  | held h => simp [Rows.uptoBulk]
theorem bulk_len {H : Type} (l : List (DataW H)) : l.length ≤ Rows.uptoBulkAll l := by
  induction l with
  | nil => simp [Rows.uptoBulkAll]
  | cons x r ih => have := bulk_one x; simp only [Rows.uptoBulkAll, List.length_cons]; omega
theorem bulk_slice {H : Type} (d : DataW H) : Go.Joins.sliceLen d ≤ Rows.uptoBulk d := by
  cases d with
  | slice elems spare =>
    have := bulk_len elems
    simp only [Go.Joins.sliceLen, Rows.uptoBulk]; omega
  | _ => simp [Go.Joins.sliceLen]
theorem vr_len {Γ : Ga} {p : Option Addr} {n c : Nat} {v : Value} (h : VR Γ (.slice p n c) v) : ∃ p' c', v = .slice p' n c' := by
  cases h <;> exact ⟨_, _, rfl⟩
section
variable {H : Type} {enc : TypeId × Value → H} {W : World} {sp : Nat → Bool} {hd : Bool} {fuel : Nat}
end
end Go.Proofs.YtfjihdlpohljbaaGreat
/- HallPrices: the contract over every input of bulk at most 1048576. -/
noncomputable section
namespace Go.Proofs.YtfjihdlpohljbaaGreat
open Go Go.Den Go.ChangeShapes Go.WideShapes Go.ChangeAt Go.RowKit Go.Deep
set_option maxRecDepth 10000
theorem slice_bulk {H : Type} {enc : TypeId × Value → H} {W : World} {sp : Nat → Bool} {hd : Bool} {fuel : Nat} {t e : TypeId} {p : Option Addr} {k c : Nat} {x : DataW H × List MemPlace} (hu : Tryz.prog.underlying t = some (.slice e)) (h : DataW.trod enc Tryz.prog W 0 sp hd fuel t [.slice p k c] = some x) : k ≤ Rows.uptoBulk x.1 := by
  have q1 := Go.Joins.sliceLen_trod (d := x.1) (ps := x.2) hu h
  have q2 := bulk_slice x.1
  omega
end Go.Proofs.YtfjihdlpohljbaaGreat
/- LeaguePromotions: the plain functions. -/
noncomputable section
namespace Go.Proofs.YtfjihdlpohljbaaGreat
open Go Go.Den
set_option maxRecDepth 100000
def alphaI (c : Int) : Bool := (decide (c ≥ 97) && decide (c ≤ 122)) || (decide (c ≥ 65) && decide (c ≤ 90))
def nameC (i : Nat) (c : Int) : Bool := alphaI c || (decide (i ≠ 0) && ((decide (c ≥ 48) && decide (c ≤ 57)) || c == 95))
def nameB (s : ByteArray) : Bool := (decide (1 ≤ s.size) && decide (s.size ≤ 24)) && (List.range s.size).all fun i => nameC i (byteI s i)
theorem nameB_bad {s : ByteArray} {i : Nat} (hi : i < s.size) (h : nameC i (byteI s i) = false) : nameB s = false := by
  unfold nameB
  have : ((List.range s.size).all fun i => nameC i (byteI s i)) = false := by
    rw [List.all_eq_false]
    exact ⟨i, List.mem_range.2 hi, by rw [h]; simp⟩
  rw [this, Bool.and_false]
theorem nameB_all {s : ByteArray} (h : ∀ i, i < s.size → nameC i (byteI s i) = true) : nameB s = (decide (1 ≤ s.size) && decide (s.size ≤ 24)) := by
  unfold nameB
  have : ((List.range s.size).all fun i => nameC i (byteI s i)) = true := by
    rw [List.all_eq_true]
    exact fun i hi => h i (List.mem_range.1 hi)
  rw [this, Bool.and_true]
theorem nameC_high {i : Nat} {c : Int} (h : 128 ≤ c) : nameC i c = false := by
  have h1 : decide (c ≤ 122) = false := by simp; omega
  have h2 : decide (c ≤ 90) = false := by simp; omega
  have h3 : decide (c ≤ 57) = false := by simp; omega
  have h4 : (c == 95) = false := by simp; omega
  simp [nameC, alphaI, h1, h2, h3, h4]
end Go.Proofs.YtfjihdlpohljbaaGreat
