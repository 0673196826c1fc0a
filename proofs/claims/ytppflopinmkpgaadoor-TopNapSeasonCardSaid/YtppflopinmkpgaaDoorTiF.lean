/- Titles: the state of the points that are given out; in plain Lean. -/
import Derived.Test.YtppflopinmkpgaaDoorTiE
noncomputable section
namespace Go.Proofs.YtppflopinmkpgaaDoor
open Go Go.Den Go.Den.Title

structure Mid (pts : List Int) (opn : List (Int × Int)) (team : Int) (i k : Nat) (given : List (Int × Int)) (room : List Int) : Prop where
  lenG : given.length = opn.length
  lenR : room.length = pts.length
  pos : ∀ g ∈ given, 0 ≤ g.1 ∧ 0 ≤ g.2
  sum : ∀ (j : Nat) p g, opn[j]? = some p → given[j]? = some g → g.1 + g.2 = if hasT team p = true then 2 else if j < i then 2 else if j = i then (k : Int) else 0
  own : ∀ (j : Nat) p g, opn[j]? = some p → given[j]? = some g → (p.1 = team → g.1 = 2) ∧ (p.2 = team → g.2 = 2)
  tot : ∀ t : Int, 0 ≤ t → t < pts.length → ptL room t + asg t opn given = mostL pts opn team - ptL pts t
  rpos : ∀ x ∈ room, 0 ≤ x
  zero : ptL room team = 0

section
variable {pts : List Int} {opn : List (Int × Int)} {team : Int} {i k : Nat} {given : List (Int × Int)} {room : List Int}
theorem Mid.next (h : Mid pts opn team i k given room) (hk : k = 2 ∨ ∃ p, opn[i]? = some p ∧ hasT team p = true) : Mid pts opn team (i + 1) 0 given room := by
  refine ⟨h.lenG, h.lenR, h.pos, fun j p g hp hg => ?_, h.own, h.tot, h.rpos, h.zero⟩
  rw [h.sum j p g hp hg]
  split
  · rfl
  · rename_i hn
    rcases Nat.lt_trichotomy j i with h1 | h1 | h1
    · rw [if_pos h1, if_pos (by omega)]
    · subst h1
      rw [if_neg (by omega), if_pos rfl, if_pos (by omega)]
      rcases hk with rfl | ⟨p', hp', ho⟩
      · rfl
      · rw [hp] at hp'; cases hp'
        exact absurd ho hn
    · rw [if_neg (by omega), if_neg (by omega), if_neg (by omega)]
      split <;> rfl
theorem Mid.sum_le (h : Mid pts opn team i k given room) (hk : k ≤ 2) : ∀ (j : Nat) p g, opn[j]? = some p → given[j]? = some g → g.1 + g.2 ≤ 2 := by
  intro j p g hp hg
  rw [h.sum j p g hp hg]
  split
  · omega
  · split
    · omega
    · split <;> omega
theorem asg_pos {t : Int} : ∀ {ps gs : List Pt}, (∀ g ∈ gs, 0 ≤ g.1 ∧ 0 ≤ g.2) → 0 ≤ asg t ps gs
  | [], gs, _ => by cases gs <;> simp [asg]
  | p :: ps, [], _ => by simp [asg]
  | p :: ps, g :: gs, h => by
    have ih := asg_pos (t := t) (ps := ps) (gs := gs) fun x hx => h x (List.mem_cons_of_mem _ hx)
    have := h g (List.mem_cons_self ..)
    simp only [asg]
    split <;> split <;> omega
/-- only the team itself is seen -/
def seen0 (n : Nat) (team : Int) : List Bool := (List.replicate n false).set team.toNat true
theorem seen0_len {n : Nat} : (seen0 n team).length = n := by simp [seen0]
theorem on_seen0 {n : Nat} {t : Int} (h0 : 0 ≤ team) (h1 : team < n) (ht : 0 ≤ t) : on (seen0 n team) t ↔ team = t := by
  unfold seen0
  rw [on_set h0 (by simpa using h1) ht]
  have : ¬ on (List.replicate n false) t := by
    unfold on
    rw [List.getElem?_replicate]
    split <;> simp
  simp [this]
theorem Mid.ready (hg : GoodR pts opn) (h : Mid pts opn team i k given room) (hk : k ≤ 2) : Ready opn given room (seen0 pts.length team) := by
  refine ⟨h.lenG, by rw [seen0_len, h.lenR], fun p hp => ?_, fun g hgm => ?_, fun x hx => ⟨h.rpos x hx, ?_⟩⟩
  · have := hg.each p hp
    rw [h.lenR]; exact this
  · obtain ⟨j, hj, rfl⟩ := List.getElem_of_mem hgm
    have hjo : j < opn.length := by rw [← h.lenG]; exact hj
    have := h.sum_le hk j _ _ (List.getElem?_eq_getElem hjo) (List.getElem?_eq_getElem hj)
    have := h.pos _ hgm
    omega
  · obtain ⟨j, hj, rfl⟩ := List.getElem_of_mem hx
    have h1 := h.tot j (by omega) (by rw [← h.lenR]; omega)
    have h2 := asg_pos (t := (j : Int)) (ps := opn) h.pos
    have h3 := ptL_bound hg (j : Int)
    have h4 := (mostL_bound hg team).2
    have h5 : ptL room (j : Int) = room[j] := by unfold ptL; simp [hj]
    omega
theorem Mid.take (hg : GoodR pts opn) (h0 : 0 ≤ team) (h1 : team < pts.length) {given' : List (Int × Int)} {room' : List Int} (h : Mid pts opn team i k given room) (hno : ∀ p, opn[i]? = some p → hasT team p = false) (M : Moved opn given room (seen0 pts.length team) i given' room') : Mid pts opn team i (k + 1) given' room' := by
  have hon : on (seen0 pts.length team) team := (on_seen0 h0 h1 h0).2 rfl
  have look : ∀ (j : Nat) g', given'[j]? = some g' → ∃ g, given[j]? = some g := fun j g' hg' => by
    have := (List.getElem?_eq_some_iff.1 hg').1
    rw [M.lenG] at this
    exact ⟨_, List.getElem?_eq_getElem this⟩
  refine ⟨M.lenG.trans h.lenG, M.lenR.trans h.lenR, fun g' hm => ?_, fun j p g' hp hg' => ?_, fun j p g' hp hg' => ?_, fun t a b => ?_, fun x hx => ?_, ?_⟩
  · obtain ⟨j, hj, rfl⟩ := List.getElem_of_mem hm
    obtain ⟨g, hgg⟩ := look j _ (List.getElem?_eq_getElem hj)
    exact (M.sum j g _ hgg (List.getElem?_eq_getElem hj)).2
  · obtain ⟨g, hgg⟩ := look j g' hg'
    rw [(M.sum j g g' hgg hg').1, h.sum j p g hp hgg]
    by_cases e : j = i
    · subst e
      have hn := hno p hp
      have e1 : (if hasT team p = true then (2 : Int) else if j < j then 2 else if j = j then (k : Int) else 0) = k := by simp [hn]
      have e2 : (if hasT team p = true then (2 : Int) else if j < j then 2 else if j = j then ((k + 1 : Nat) : Int) else 0) = ((k + 1 : Nat) : Int) := by simp [hn]
      rw [e1, e2, if_pos rfl]; omega
    · rw [if_neg e]
      simp only [if_neg e, Int.add_zero]
  · obtain ⟨g, hgg⟩ := look j g' hg'
    have ko := M.keepG j p g g' hp hgg hg'
    have oo := h.own j p g hp hgg
    exact ⟨fun e => by rw [ko.1 (e ▸ hon)]; exact oo.1 e, fun e => by rw [ko.2 (e ▸ hon)]; exact oo.2 e⟩
  · rw [M.tot t a (by rw [h.lenR]; exact b)]
    exact h.tot t a b
  · obtain ⟨j, hj, rfl⟩ := List.getElem_of_mem hx
    have := M.rpos (j : Int)
    unfold ptL at this
    simpa [hj] using this
  · rw [M.keepR team h0 hon]; exact h.zero
theorem hasT_iff {p : Int × Int} : hasT team p = true ↔ p.1 = team ∨ p.2 = team := by
  rw [hasT_or]; simp
theorem Mid.fail (hg : GoodR pts opn) (h0 : 0 ≤ team) (h1 : team < pts.length) {s : List Bool} (h : Mid pts opn team i k given room) (hk : k ≤ 1) {p : Int × Int} (hp : opn[i]? = some p) (hno : hasT team p = false) (hf : Fails opn given room (seen0 pts.length team) s) (hb : on s p.1 ∧ on s p.2) : bestL pts opn team ≠ [] := by
  have hpe := hg.each p (List.mem_of_getElem? hp)
  have hno' : p.1 ≠ team ∧ p.2 ≠ team := ⟨fun e => (by rw [hasT_iff.2 (.inl e)] at hno; cases hno), fun e => (by rw [hasT_iff.2 (.inr e)] at hno; cases hno)⟩
  let P : Nat → Bool := fun t => decide (s[t]? = some true) && decide ((t : Int) ≠ team)
  have mem : ∀ t : Int, t ∈ (((List.range pts.length).filter P).map fun (i : Nat) => (i : Int)) ↔ 0 ≤ t ∧ t < pts.length ∧ on s t ∧ t ≠ team := by
    intro t
    simp only [List.mem_map, List.mem_filter, List.mem_range, P, Bool.and_eq_true, decide_eq_true_eq]
    constructor
    · rintro ⟨a, ⟨b, c, d⟩, rfl⟩
      exact ⟨by omega, by omega, by unfold on; simpa using c, d⟩
    · rintro ⟨a, b, c, d⟩
      exact ⟨t.toNat, ⟨by omega, c, by omega⟩, by omega⟩
  have nd : (((List.range pts.length).filter P).map fun (i : Nat) => (i : Int)).Nodup := by
    unfold List.Nodup
    rw [List.pairwise_map]
    exact ((List.nodup_range).filter _).imp fun h e => h (by omega)
  refine best_of_set (P := P) h0 h1 (by simp only [P]; rw [Int.toNat_of_nonneg h0]; simp) ⟨p.1.toNat, by omega, ?_⟩ ?_
  · simp only [P, Bool.and_eq_true, decide_eq_true_eq]
    exact ⟨hb.1, by omega⟩
  · refine proof_of_fail (gs := given) (i := i) nd h.lenG (fun j q g hq hgg => ⟨h.sum_le (by omega) j q g hq hgg, fun hs hne => ?_, fun hs hne => ?_⟩) ?_ (fun t ht => ?_)
    · rw [mem] at hs ⊢
      have hqe := hg.each q (List.mem_of_getElem? hq)
      have hnew := hf.new q.1 hs.1 hs.2.2.1 (fun e => hs.2.2.2 ((on_seen0 h0 h1 hs.1).1 e).symm)
      refine ⟨hqe.2.1.1, hqe.2.1.2, (hnew.each j q g hq hgg).1 rfl hne, fun e => ?_⟩
      have h2 := (h.own j q g hq hgg).2 e
      have h3 := h.sum_le (by omega) j q g hq hgg
      have h4 := h.pos g (List.mem_of_getElem? hgg)
      omega
    · rw [mem] at hs ⊢
      have hqe := hg.each q (List.mem_of_getElem? hq)
      have hnew := hf.new q.2 hs.1 hs.2.2.1 (fun e => hs.2.2.2 ((on_seen0 h0 h1 hs.1).1 e).symm)
      refine ⟨hqe.1.1, hqe.1.2, (hnew.each j q g hq hgg).2 rfl hne, fun e => ?_⟩
      have h2 := (h.own j q g hq hgg).1 e
      have h3 := h.sum_le (by omega) j q g hq hgg
      have h4 := h.pos g (List.mem_of_getElem? hgg)
      omega
    · have hig : i < given.length := by rw [h.lenG]; exact (List.getElem?_eq_some_iff.1 hp).1
      refine ⟨p, given[i], hp, List.getElem?_eq_getElem hig, (mem _).2 ⟨hpe.1.1, hpe.1.2, hb.1, hno'.1⟩, (mem _).2 ⟨hpe.2.1.1, hpe.2.1.2, hb.2, hno'.2⟩, ?_⟩
      rw [h.sum i p _ hp (List.getElem?_eq_getElem hig), if_neg (by rw [hno]; simp), if_neg (by omega), if_pos rfl]
      omega
    · rw [mem] at ht
      have hnew := hf.new t ht.1 ht.2.2.1 (fun e => ht.2.2.2 ((on_seen0 h0 h1 ht.1).1 e).symm)
      have := h.tot t ht.1 ht.2.1
      have := hnew.room
      omega
/-- all is given out -/
theorem Mid.done (h0 : 0 ≤ team) (h1 : team < pts.length) (h : Mid pts opn team opn.length 0 given room) : bestL pts opn team = [] ∧ titleF pts opn team (given.map (·.1)) = 0 := by
  have s2 : ∀ g ∈ given, 0 ≤ g.1 ∧ 0 ≤ g.2 ∧ g.1 + g.2 = 2 := fun g hgm => by
    obtain ⟨j, hj, rfl⟩ := List.getElem_of_mem hgm
    have hjo : j < opn.length := by rw [← h.lenG]; exact hj
    have := h.sum j _ _ (List.getElem?_eq_getElem hjo) (List.getElem?_eq_getElem hj)
    rw [if_pos hjo] at this
    have hp := h.pos _ hgm
    refine ⟨hp.1, hp.2, ?_⟩
    split at this <;> exact this
  have rn := ptL_nonneg h.rpos
  have hgv : (given.map (·.1)).map gv = given := by
    rw [List.map_map]
    conv => rhs; rw [← List.map_id given]
    apply List.map_congr_left
    intro g hgm
    have := s2 g hgm
    simp only [Function.comp, gv, id]
    ext <;> simp <;> omega
  refine ⟨none_of_points h.lenG s2 fun t a b => ?_, ?_⟩
  · have := h.tot t a b
    have := rn t
    omega
  · unfold titleF
    rw [if_neg (by simpa using h.lenG), hgv]
    have e1 : ((given.map (·.1)).any fun k => outL k 0 2) = false := by
      rw [List.any_eq_false]
      intro x hx
      obtain ⟨g, hgm, rfl⟩ := List.mem_map.1 hx
      have := s2 g hgm
      simp [outL]; omega
    rw [e1, if_neg (by simp)]
    have e2 : ((totL pts opn given).any fun y => decide (y > ptL pts team + asg team opn given)) = false := by
      rw [List.any_eq_false]
      intro x hx
      obtain ⟨t, ht, rfl⟩ := List.mem_map.1 hx
      have ht := List.mem_range.1 ht
      have a := h.tot (t : Int) (by omega) (by omega)
      have b := h.tot team h0 h1
      have c := rn (t : Int)
      have z := h.zero
      simp; omega
    rw [e2]; rfl
end
end Go.Proofs.YtppflopinmkpgaaDoor
