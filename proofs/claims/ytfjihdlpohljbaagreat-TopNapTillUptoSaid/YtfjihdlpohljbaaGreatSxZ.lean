/- HallSums: the contract over every input. -/
import Derived.Test.YtfjihdlpohljbaaGreatAwake
import Derived.Test.YtfjihdlpohljbaaGreatSxP
import Derived.Test.YtfjihdlpohljbaaGreatHaF
import Derived.Test.YtfjihdlpohljbaaGreatSxU
import Derived.Test.YtfjihdlpohljbaaGreatTcH
import Derived.Test.YtfjihdlpohljbaaGreatSxM
import Derived.Test.YtfjihdlpohljbaaGreatTcB
noncomputable section
namespace Go.Proofs.YtfjihdlpohljbaaGreat
open Go Go.Den Go.ChangeShapes Go.WideShapes Go.ChangeAt Go.RowKit Go.Deep
set_option maxRecDepth 10000

noncomputable instance : Inhabited Ra := ⟨⟨0, 0, 0⟩⟩
theorem undRa : ∃ f0 f1 f2 : Field, Tryz.prog.underlying 32 = some (.struct #[f0, f1, f2]) ∧ (f0.type = 3 ∧ f0.offset = 0) ∧ (f1.type = 3 ∧ f1.offset = 1) ∧ (f2.type = 3 ∧ f2.offset = 2) := ⟨_, _, _, rfl, ⟨rfl, rfl⟩, ⟨rfl, rfl⟩, ⟨rfl, rfl⟩⟩
theorem undRas : Tryz.prog.underlying 22 = some (.slice 32) := rfl
theorem cellsRa : Tryz.prog.cellsOf 32 = 3 := by decide +kernel
theorem ra_flat (x : Ra) : (ra x).all flatC = true := rfl
section
variable {H : Type} {enc : TypeId × Value → H} {W : World} {sp : Nat → Bool} {hd : Bool} {fuel : Nat}
theorem dec_ra {cs : List Value} {x : DataW H × List MemPlace} (h : DataW.trod enc Tryz.prog W 0 sp hd fuel 32 cs = some x) : ∃ y, cs = ra y := by
  obtain ⟨f0, f1, f2, hu, ⟨a0, b0⟩, ⟨a1, b1⟩, ⟨a2, b2⟩⟩ := undRa
  obtain ⟨y0, y1, y2, n, _, hl, h0, h1, h2⟩ := trod_struct3 hu h
  rw [a0, b0] at h0
  rw [a1, b1] at h1
  rw [a2, b2] at h2
  rw [cellsRa] at hl
  rw [cellsInt] at h0 h1 h2
  match cs, hl with
  | [u0, u1, u2], _ =>
    obtain ⟨n0, e0⟩ := trod_i64 h0
    obtain ⟨n1, e1⟩ := trod_i64 h1
    obtain ⟨n2, e2⟩ := trod_i64 h2
    simp at e0 e1 e2
    subst e0; subst e1; subst e2
    exact ⟨⟨n0, n1, n2⟩, rfl⟩
theorem open_rates {b0 : Nat} {v : Value} {x : DataW H × List MemPlace} (hsp : ∀ b, sp b = true) (h : DataW.trod enc Tryz.prog W 0 sp hd fuel 22 [v] = some x) (hok : Cell.okWide Tryz.prog W .any b0 22 v) : OpS W ra 3 v :=
  open_flat (f := ra) (w := 3) (by omega) ra_len undRas cellsRa dec_ra hsp h hok
end
theorem OpU.low {W : World} {α : Type} {f : α → List Value} {w : Nat} {v : Value} {o : Option BB} {p : Nat → Option Addr} {c : Nat} {l : List α} (h : OpU W f w v o p c l) (k : Nat) : LowS (p k) c l.length := ⟨h.cap, h.nil k, h.spot k⟩
end Go.Proofs.YtfjihdlpohljbaaGreat
/- The symbolic layer: lists in maps that grow; ranges over maps whose iterator lies anywhere. -/
noncomputable section
namespace Go.Den
section
variable {P : Program} {rd : Option Nat} {nt : Nat} {ops : Array Oper} {l : EL} {ds : List Nat} {K : St → Prop} {i : Nat} {r : List Oper} {o : Oper} {ty : TypeId} {pos : String} {af : Array Edge} {H : AHeap} {lo : Nat} {L : List (Option ABlk)} {L0 : List (Option ABlk)} {ow : List Nat} {N : List ABlk}
theorem Lst.move {α : Type} {m k0 : Nat} {f : α → List Value} {lst : List α} {v : Value} {L' : List (Option ABlk)} (h : Lst H L m f k0 v lst) (hs : lst ≠ [] → ∀ j : Nat, L[j]? = some (some (ABlk.cells (lst.flatMap f) m true false)) → L'[j]? = some (some (ABlk.cells (lst.flatMap f) m true false))) : Lst H L' m f k0 v lst := by
  rcases h.out with ⟨e1, e2⟩ | ⟨hne, k, h1, e, h2⟩
  · exact ⟨.inl ⟨e1, e2⟩⟩
  · exact ⟨.inr ⟨hne, k, h1, e, hs hne k h2⟩⟩
end
end Go.Den
/- The symbolic layer: several lists that grow beside each other. -/
noncomputable section
namespace Go.Den

/-- blocks stay where they are -/
def Keeps (L L' : List (Option ABlk)) : Prop := ∀ (k : Nat) y, L[k]? = some (some y) → L'[k]? = some (some y)
theorem Keeps.refl (L : List (Option ABlk)) : Keeps L L := fun _ _ h => h
theorem Keeps.trans {L L1 L2 : List (Option ABlk)} (h : Keeps L L1) (k : Keeps L1 L2) : Keeps L L2 := fun j y hy => k j y (h j y hy)
theorem Keeps.app {L : List (Option ABlk)} (M : List (Option ABlk)) : Keeps L (L ++ M) := fun _ _ h => getApp h
/-- a list that was made by appending, wherever its block stays -/
theorem Lst.slAll {α : Type} {H : AHeap} {L : List (Option ABlk)} {m k0 : Nat} {f : α → List Value} {v : Value} {l : List α} (h : Lst H L m f k0 v l) (hf : ∀ x, (f x).length = m) :
    ∃ p, v = .slice p l.length l.length ∧ ∀ (L' : List (Option ABlk)) (lo : Nat), Keeps L L' → SlAt (ext H lo L') m f p l := by
  rcases h.out with ⟨rfl, rfl⟩ | ⟨hne, k, h1, rfl, h2⟩
  · exact ⟨none, rfl, fun _ _ _ => .nil⟩
  · exact ⟨_, rfl, fun L' lo hk => slAt_flat hf (ext_get_new (hk _ _ h2))⟩
theorem lst_ofL {α : Type} {H : AHeap} {L : List (Option ABlk)} {m k0 : Nat} {f : α → List Value} {l : List α} (hL : k0 ≤ L.length) : Lst H (L ++ lstL m f l) m f k0 (lstV (nb H L.length) l) l := by
  cases l with
  | nil => exact .nil
  | cons a l => exact ⟨.inr ⟨by simp, L.length, hL, rfl, by simp [lstL]⟩⟩
/-- v is a list that was made by appending; its block is K -/
structure LstI {α : Type} (H : AHeap) (L : List (Option ABlk)) (m : Nat) (f : α → List Value) (K : Nat) (v : Value) (l : List α) : Prop where
  out : (l = [] ∧ v = .slice none 0 0) ∨ (l ≠ [] ∧ v = .slice (some ⟨nb H K, 0, none⟩) l.length l.length ∧ L[K]? = some (some (.cells (l.flatMap f) m true false)))
section
variable {α : Type} {H : AHeap} {lo K k0 m : Nat} {L L' : List (Option ABlk)} {f : α → List Value} {l : List α} {v : Value}
theorem LstI.nil : LstI H L m f K (.slice none 0 0) ([] : List α) := ⟨.inl ⟨rfl, rfl⟩⟩
theorem LstI.lst (h : LstI H L m f K v l) (hk : k0 ≤ K) : Lst H L m f k0 v l := by
  rcases h.out with ⟨e1, e2⟩ | ⟨h1, h2, h3⟩
  · exact ⟨.inl ⟨e1, e2⟩⟩
  · exact ⟨.inr ⟨h1, K, hk, h2, h3⟩⟩
theorem LstI.keep (h : LstI H L m f K v l) (hk : l ≠ [] → L'[K]? = L[K]?) : LstI H L' m f K v l := by
  rcases h.out with ⟨e1, e2⟩ | ⟨h1, h2, h3⟩
  · exact ⟨.inl ⟨e1, e2⟩⟩
  · exact ⟨.inr ⟨h1, h2, by rw [hk h1]; exact h3⟩⟩
theorem LstI.keeps (h : LstI H L m f K v l) (hk : Keeps L L') : LstI H L' m f K v l := by
  rcases h.out with ⟨e1, e2⟩ | ⟨h1, h2, h3⟩
  · exact ⟨.inl ⟨e1, e2⟩⟩
  · exact ⟨.inr ⟨h1, h2, hk _ _ h3⟩⟩
theorem LstI.lt (h : LstI H L m f K v l) (hne : l ≠ []) : K < L.length := by
  rcases h.out with ⟨e1, _⟩ | ⟨_, _, h3⟩
  · exact absurd e1 hne
  · exact (List.getElem?_eq_some_iff.1 h3).1
theorem LstI.at_ (h : LstI H L m f K v l) (hne : l ≠ []) : v = .slice (some ⟨nb H K, 0, none⟩) l.length l.length ∧ L[K]? = some (some (.cells (l.flatMap f) m true false)) := by
  rcases h.out with ⟨e1, _⟩ | ⟨_, h2, h3⟩
  · exact absurd e1 hne
  · exact ⟨h2, h3⟩
theorem LstI.slice (h : LstI H L m f K v l) (hf : ∀ x, (f x).length = m) : ∃ p, v = .slice p l.length l.length ∧ SlAt (ext H lo L) m f p l ∧ (p = none ↔ l = []) := (h.lst (Nat.zero_le _)).slice hf
end
section
variable {P : Program} {rd : Option Nat} {nt : Nat} {ops : Array Oper} {l : EL} {ds : List Nat} {K : St → Prop} {i : Nat} {r : List Oper} {o : Oper} {ty : TypeId} {pos : String} {af : Array Edge} {H : AHeap} {lo : Nat} {L : List (Option ABlk)} {α : Type} {f : α → List Value}
/-- a list grows; its block moves to the end, the others stay -/
theorem seq_growI [PC P] {lst xs : List α} {m k0 d : Nat} {args : Array Operand} {tys : Array TypeId} {st : TypeId} {tr : List TypeId} {v : Value} {b o' c by' z : Nat} {ag k ro : Bool} {e : TypeId} {zs cs : List Value}
    (hc : Closed H) (hv : LstI H L m f k0 v lst) (hf : ∀ x, (f x).length = m) (hone : ∀ x, (f x).all oneCell = true)
    (ha : evs l args.toList = some [v, .slice (some ⟨b, o', none⟩) xs.length c]) (hty : tys.toList = st :: st :: tr)
    (hs : selOf P st = some (m, ag)) (he : (tyOf P st).map (·.und) = some (.slice e)) (hz : zerOf P e = some zs) (hby : (tyOf P e).map (·.bytes) = some by')
    (hb : (ext H lo L).get b = some (.cells cs z k ro)) (hn : sliceIn cs o' (xs.length * m) = some (xs.flatMap f)) (hxs : xs ≠ []) (h1 : (2 * (lst.length + xs.length) + 1000) * by' ≤ 2 ^ 48) (h2 : by' ≠ 0) (h3 : m ≠ 0) (hd : Nat.blt d nt = true)
    (hk : ∀ v' L', LstI H L' m f L.length v' (lst ++ xs) → (∀ j, j < L.length → (lst ≠ [] → j ≠ k0) → L'[j]? = L[j]?) → L'.length = L.length + 1 → SeqL P rd nt ops (o :: r) (i + 1) ⟨ofA ((d, v') :: l), ds, ext H lo L'⟩ K) :
    SeqL P rd nt ops (⟨some d, .call ⟨.builtin .append, args, tys⟩, ty, pos, af, none⟩ :: o :: r) i ⟨ofA l, ds, ext H lo L⟩ K := by
  have hx0 : 0 < xs.length := by cases xs with | nil => exact absurd rfl hxs | cons _ _ => simp
  have hall : (xs.flatMap f).all oneCell = true := by
    rw [List.all_eq_true]
    intro x hx
    obtain ⟨y, _, hy⟩ := List.mem_flatMap.1 hx
    exact List.all_eq_true.1 (hone y) x hy
  rcases hv.out with ⟨rfl, rfl⟩ | ⟨hne, rfl, hL⟩
  · refine seq_newS (do_append0 ha hty hs he hz hby hb hn (by simpa using h1) h2 h3 hx0) hd (hk _ _ ?_ (fun j hj _ => List.getElem?_append_left hj) (by simp))
    exact ⟨.inr ⟨by simpa using hxs, by simp, by simp⟩⟩
  · have hlt : k0 < L.length := (List.getElem?_eq_some_iff.1 hL).1
    refine seq_push hc hlt (do_append1 ha hty hs he hz hby hb hn (ext_get_new hL) (len_flat hf lst) (nb_own _) hall h1 h2 h3 hx0) hd (hk _ _ ?_ ?_ (by simp))
    · refine ⟨.inr ⟨by simp [hne], by simp, ?_⟩⟩
      have e2 : (L.set k0 none).length = L.length := List.length_set
      rw [← e2, List.flatMap_append]
      exact List.getElem?_concat_length
    · intro j hj hjk
      rw [List.getElem?_append_left (by rw [List.length_set]; exact hj), List.getElem?_set_ne (fun e => hjk hne e.symm)]
end
end Go.Den
