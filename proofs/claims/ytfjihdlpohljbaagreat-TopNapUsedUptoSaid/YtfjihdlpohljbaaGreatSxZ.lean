/- Plain law: teams with the same figures. -/
import Derived.Test.YtfjihdlpohljbaaGreatSxU
import Derived.Test.YtfjihdlpohljbaaGreatHaB
import Derived.Test.YtfjihdlpohljbaaGreatSxK
import Derived.Test.YtfjihdlpohljbaaGreatHaC
import Derived.Test.YtfjihdlpohljbaaGreatSxQ
import Derived.Test.YtfjihdlpohljbaaGreatOpA
import Derived.Test.YtfjihdlpohljbaaGreatElJ
noncomputable section
namespace Go.Proofs.YtfjihdlpohljbaaGreat
open Go Go.Den
set_option maxRecDepth 100000

/-- the rows before i with the figures a, by their numbers -/
def idxs (t : List Rw) (a : Fg) (i : Nat) : List Int := ((List.range i).filter fun j => decide (t[j]?.map figL = some a)).map fun (j : Nat) => (j : Int)
section
variable {t : List Rw} {a b : Fg} {i : Nat}
theorem idxs_succ (h : i < t.length) : idxs t a (i + 1) = if figL t[i] = a then idxs t a i ++ [(i : Int)] else idxs t a i := by
  unfold idxs
  rw [List.range_succ, List.filter_append, List.map_append]
  have e : t[i]?.map figL = some (figL t[i]) := by rw [List.getElem?_eq_getElem h]; rfl
  by_cases p : figL t[i] = a
  · have hp : decide (t[i]?.map figL = some a) = true := decide_eq_true (by rw [e, p])
    rw [if_pos p, List.filter_cons, if_pos hp]; rfl
  · have hp : ¬ decide (t[i]?.map figL = some a) = true := by
      rw [decide_eq_true_iff, e]; exact fun h => p (Option.some.inj h)
    rw [if_neg p, List.filter_cons, if_neg hp]; simp
theorem mem_idxs {k : Int} : k ∈ idxs t a i ↔ ∃ j, j < i ∧ k = (j : Int) ∧ t[j]?.map figL = some a := by
  unfold idxs
  rw [List.mem_map]
  constructor
  · rintro ⟨j, hj, rfl⟩
    rw [List.mem_filter, List.mem_range, decide_eq_true_iff] at hj
    exact ⟨j, hj.1, rfl, hj.2⟩
  · rintro ⟨j, h1, rfl, h2⟩
    exact ⟨j, by rw [List.mem_filter, List.mem_range, decide_eq_true_iff]; exact ⟨h1, h2⟩, rfl⟩
theorem idxs_ne {j : Nat} (hab : a ≠ b) (hne : idxs t a i ≠ []) : idxs t a i ≠ idxs t b j := fun e => by
  obtain ⟨k, r, hk⟩ := List.exists_cons_of_ne_nil hne
  have h1 : k ∈ idxs t a i := by rw [hk]; exact List.mem_cons_self ..
  have h2 : k ∈ idxs t b j := by rw [← e]; exact h1
  obtain ⟨u, _, rfl, hu⟩ := mem_idxs.1 h1
  obtain ⟨v, _, e2, hv⟩ := mem_idxs.1 h2
  have : u = v := by omega
  subst this
  rw [hu] at hv
  exact hab (Option.some.inj hv)
end
end Go.Proofs.YtfjihdlpohljbaaGreat
/- Contracts: rows are sorted by insertion. -/
noncomputable section
namespace Go.Proofs.YtfjihdlpohljbaaGreat
open Go Go.Den
set_option maxRecDepth 100000

theorem do_pred {P : Program} {l : EL} {h : AHeap} {x : Operand} {t t' : TypeId} {i : Nat} (hx : ev l x = some (.int .i64 ((i + 1 : Nat) : Int))) (hr : i < 9223372036854775807) : Does P l (.binOp .sub t x (.const (.int .i64 1)) t') h (.int .i64 (i : Int)) h := by
  have := do_sub (P := P) (l := l) (h := h) (t := t) (t' := t') (y := .const (.int .i64 1)) hx rfl (by omega)
  have e : ((i + 1 : Nat) : Int) - 1 = (i : Int) := by omega
  rw [e] at this
  exact this
end Go.Proofs.YtfjihdlpohljbaaGreat
/- HallSums: the contract over every input. -/
noncomputable section
namespace Go.Proofs.YtfjihdlpohljbaaGreat
open Go Go.Den Go.ChangeShapes Go.WideShapes Go.ChangeAt Go.RowKit Go.Deep
set_option maxRecDepth 10000

noncomputable instance : Inhabited Ra := ⟨⟨0, 0, 0⟩⟩
section
variable {H : Type} {enc : TypeId × Value → H} {W : World} {sp : Nat → Bool} {hd : Bool} {fuel : Nat}
end
theorem OpU.low {W : World} {α : Type} {f : α → List Value} {w : Nat} {v : Value} {o : Option BB} {p : Nat → Option Addr} {c : Nat} {l : List α} (h : OpU W f w v o p c l) (k : Nat) : LowS (p k) c l.length := ⟨h.cap, h.nil k, h.spot k⟩
end Go.Proofs.YtfjihdlpohljbaaGreat
/- The symbolic layer: lists in maps that grow; ranges over maps whose iterator lies anywhere. -/
noncomputable section
namespace Go.Den
section
variable {P : Program} {rd : Option Nat} {nt : Nat} {ops : Array Oper} {l : EL} {ds : List Nat} {K : St → Prop} {i : Nat} {r : List Oper} {o : Oper} {ty : TypeId} {pos : String} {af : Array Edge} {H : AHeap} {lo : Nat} {L : List (Option ABlk)} {L0 : List (Option ABlk)} {ow : List Nat} {N : List ABlk}
theorem Lst.move {α : Type} {m k0 : Nat} {f : α → List Value} {lst : List α} {v : Value} {L' : List (Option ABlk)} (h : Lst H L m f k0 v lst) (hs : lst ≠ [] → ∀ j : Nat, L[j]? = some (some (ABlk.cells (lst.flatMap f) m true false)) → L'[j]? = some (some (ABlk.cells (lst.flatMap f) m true false))) : Lst H L' m f k0 v lst := by
  rcases h.out with ⟨e1, e2⟩ | ⟨hne, k, h1, e, h2⟩
  · exact ⟨.inl ⟨e1, e2⟩⟩
  · exact ⟨.inr ⟨hne, k, h1, e, hs hne k h2⟩⟩
end
end Go.Den
/- The symbolic layer: several lists that grow beside each other. -/
noncomputable section
namespace Go.Den

/-- blocks stay where they are -/
def Keeps (L L' : List (Option ABlk)) : Prop := ∀ (k : Nat) y, L[k]? = some (some y) → L'[k]? = some (some y)
theorem Keeps.refl (L : List (Option ABlk)) : Keeps L L := fun _ _ h => h
theorem Keeps.trans {L L1 L2 : List (Option ABlk)} (h : Keeps L L1) (k : Keeps L1 L2) : Keeps L L2 := fun j y hy => k j y (h j y hy)
theorem Keeps.app {L : List (Option ABlk)} (M : List (Option ABlk)) : Keeps L (L ++ M) := fun _ _ h => getApp h
/-- v is a list that was made by appending; its block is K -/
structure LstI {α : Type} (H : AHeap) (L : List (Option ABlk)) (m : Nat) (f : α → List Value) (K : Nat) (v : Value) (l : List α) : Prop where
  out : (l = [] ∧ v = .slice none 0 0) ∨ (l ≠ [] ∧ v = .slice (some ⟨nb H K, 0, none⟩) l.length l.length ∧ L[K]? = some (some (.cells (l.flatMap f) m true false)))
section
variable {α : Type} {H : AHeap} {lo K k0 m : Nat} {L L' : List (Option ABlk)} {f : α → List Value} {l : List α} {v : Value}
theorem LstI.nil : LstI H L m f K (.slice none 0 0) ([] : List α) := ⟨.inl ⟨rfl, rfl⟩⟩
theorem LstI.lst (h : LstI H L m f K v l) (hk : k0 ≤ K) : Lst H L m f k0 v l := by
  rcases h.out with ⟨e1, e2⟩ | ⟨h1, h2, h3⟩
  · exact ⟨.inl ⟨e1, e2⟩⟩
  · exact ⟨.inr ⟨h1, K, hk, h2, h3⟩⟩
theorem LstI.keep (h : LstI H L m f K v l) (hk : l ≠ [] → L'[K]? = L[K]?) : LstI H L' m f K v l := by
  rcases h.out with ⟨e1, e2⟩ | ⟨h1, h2, h3⟩
  · exact ⟨.inl ⟨e1, e2⟩⟩
  · exact ⟨.inr ⟨h1, h2, by rw [hk h1]; exact h3⟩⟩
theorem LstI.keeps (h : LstI H L m f K v l) (hk : Keeps L L') : LstI H L' m f K v l := by
  rcases h.out with ⟨e1, e2⟩ | ⟨h1, h2, h3⟩
  · exact ⟨.inl ⟨e1, e2⟩⟩
  · exact ⟨.inr ⟨h1, h2, hk _ _ h3⟩⟩
theorem LstI.lt (h : LstI H L m f K v l) (hne : l ≠ []) : K < L.length := by
  rcases h.out with ⟨e1, _⟩ | ⟨_, _, h3⟩
  · exact absurd e1 hne
  · exact (List.getElem?_eq_some_iff.1 h3).1
theorem LstI.at_ (h : LstI H L m f K v l) (hne : l ≠ []) : v = .slice (some ⟨nb H K, 0, none⟩) l.length l.length ∧ L[K]? = some (some (.cells (l.flatMap f) m true false)) := by
  rcases h.out with ⟨e1, _⟩ | ⟨_, h2, h3⟩
  · exact absurd e1 hne
  · exact ⟨h2, h3⟩
theorem LstI.slice (h : LstI H L m f K v l) (hf : ∀ x, (f x).length = m) : ∃ p, v = .slice p l.length l.length ∧ SlAt (ext H lo L) m f p l ∧ (p = none ↔ l = []) := (h.lst (Nat.zero_le _)).slice hf
end
section
variable {P : Program} {rd : Option Nat} {nt : Nat} {ops : Array Oper} {l : EL} {ds : List Nat} {K : St → Prop} {i : Nat} {r : List Oper} {o : Oper} {ty : TypeId} {pos : String} {af : Array Edge} {H : AHeap} {lo : Nat} {L : List (Option ABlk)} {α : Type} {f : α → List Value}
/-- a list grows; its block moves to the end, the others stay -/
theorem seq_growI [PC P] {lst xs : List α} {m k0 d : Nat} {args : Array Operand} {tys : Array TypeId} {st : TypeId} {tr : List TypeId} {v : Value} {b o' c by' z : Nat} {ag k ro : Bool} {e : TypeId} {zs cs : List Value}
    (hc : Closed H) (hv : LstI H L m f k0 v lst) (hf : ∀ x, (f x).length = m) (hone : ∀ x, (f x).all oneCell = true)
    (ha : evs l args.toList = some [v, .slice (some ⟨b, o', none⟩) xs.length c]) (hty : tys.toList = st :: st :: tr)
    (hs : selOf P st = some (m, ag)) (he : (tyOf P st).map (·.und) = some (.slice e)) (hz : zerOf P e = some zs) (hby : (tyOf P e).map (·.bytes) = some by')
    (hb : (ext H lo L).get b = some (.cells cs z k ro)) (hn : sliceIn cs o' (xs.length * m) = some (xs.flatMap f)) (hxs : xs ≠ []) (h1 : (2 * (lst.length + xs.length) + 1000) * by' ≤ 2 ^ 48) (h2 : by' ≠ 0) (h3 : m ≠ 0) (hd : Nat.blt d nt = true)
    (hk : ∀ v' L', LstI H L' m f L.length v' (lst ++ xs) → (∀ j, j < L.length → (lst ≠ [] → j ≠ k0) → L'[j]? = L[j]?) → L'.length = L.length + 1 → SeqL P rd nt ops (o :: r) (i + 1) ⟨ofA ((d, v') :: l), ds, ext H lo L'⟩ K) :
    SeqL P rd nt ops (⟨some d, .call ⟨.builtin .append, args, tys⟩, ty, pos, af, none⟩ :: o :: r) i ⟨ofA l, ds, ext H lo L⟩ K := by
  have hx0 : 0 < xs.length := by cases xs with | nil => exact absurd rfl hxs | cons _ _ => simp
  have hall : (xs.flatMap f).all oneCell = true := by
    rw [List.all_eq_true]
    intro x hx
    obtain ⟨y, _, hy⟩ := List.mem_flatMap.1 hx
    exact List.all_eq_true.1 (hone y) x hy
  rcases hv.out with ⟨rfl, rfl⟩ | ⟨hne, rfl, hL⟩
  · refine seq_newS (do_append0 ha hty hs he hz hby hb hn (by simpa using h1) h2 h3 hx0) hd (hk _ _ ?_ (fun j hj _ => List.getElem?_append_left hj) (by simp))
    exact ⟨.inr ⟨by simpa using hxs, by simp, by simp⟩⟩
  · have hlt : k0 < L.length := (List.getElem?_eq_some_iff.1 hL).1
    refine seq_push hc hlt (do_append1 ha hty hs he hz hby hb hn (ext_get_new hL) (len_flat hf lst) (nb_own _) hall h1 h2 h3 hx0) hd (hk _ _ ?_ ?_ (by simp))
    · refine ⟨.inr ⟨by simp [hne], by simp, ?_⟩⟩
      have e2 : (L.set k0 none).length = L.length := List.length_set
      rw [← e2, List.flatMap_append]
      exact List.getElem?_concat_length
    · intro j hj hjk
      rw [List.getElem?_append_left (by rw [List.length_set]; exact hj), List.getElem?_set_ne (fun e => hjk hne e.symm)]
end
/-- a join at the end of a block -/
theorem ct_JE {P : Program} {rd : Option Nat} {nt : Nat} {ds : List Nat} {a b : Code} {s : St} {Qn : St → Prop} {Qe Qe' : Nat → St → Prop} {Qr Qr' : St → Prop} (E : EL) {h : AHeap} (h1 : CT P rd nt a s (JP E ds h) Qe' Qr') (h2 : CT P rd nt b ⟨ofA E, ds, h⟩ Qn Qe Qr) : CT P rd nt a s (fun s' => CT P rd nt b s' Qn Qe Qr) Qe' Qr' :=
  h1.mono (jp_ct h2) (fun _ _ h => h) (fun _ h => h)
theorem ct_JXE {P : Program} {rd : Option Nat} {nt : Nat} {ds : List Nat} {a b : Code} {s : St} {α : Type} {Qn : St → Prop} {Qe Qe' : Nat → St → Prop} {Qr Qr' : St → Prop} (E : α → EL) (hh : α → AHeap) (J : α → Prop) (h1 : CT P rd nt a s (JX E ds hh J) Qe' Qr') (h2 : ∀ a, J a → CT P rd nt b ⟨ofA (E a), ds, hh a⟩ Qn Qe Qr) : CT P rd nt a s (fun s' => CT P rd nt b s' Qn Qe Qr) Qe' Qr' :=
  h1.mono (jx_ct h2) (fun _ _ h => h) (fun _ h => h)
end Go.Den
