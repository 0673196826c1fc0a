import Derived.Test.YtlejimjgagfalaaGreatDoorGwC
import Derived.Test.YtlejimjgagfalaaGreatDoorQnB
noncomputable section
namespace Go.Proofs.YtlejimjgagfalaaGreatDoor
open Go Go.Den Go.Lib
set_option maxRecDepth 100000
theorem zff {l : List Rat} {bs : List Nat} {n z z' : Nat} {s s' : Bool} (hl : l ≠ []) (hb : bs ≠ []) : ABlk.cells (l.flatMap s1q) z s false ≠ .cells (bs.flatMap (rwV n)) z' s' false := by
 cases l with
 | nil => exact absurd rfl hl
 | cons a r =>
  cases bs with
  | nil => exact absurd rfl hb
  | cons b q =>
   intro h;injection h with h1
   simp at h1
structure ClnK (H : AHeap) (n : Nat) (M : Mat) (i : Nat) (v : Value) (bs : List Nat) (L : List (Option ABlk)) : Prop where
 le : i ≤ M.length
 lst : Lst H L 1 (rwV n) 0 v bs
 len : bs.length = i
 row : ∀ j (h : j < bs.length) (h2 : j < M.length), ∃ k, bs[j] = nb H k ∧ ∃ s, L[k]? = some (some (.cells (M[j].flatMap s1q) 1 s false))
 nodup : bs.Nodup
set_option maxHeartbeats 4000000 in
theorem zmI {H : AHeap} {p : Option Addr} {c n : Nat} {M : Mat} (hg : GridAt H p n M) (hw : Wide n M) (hn0 : 0 < n) (hn : n ≤ 1000) (hm0 : 0 < M.length) (hm : M.length ≤ 1000) :
  CallT Tryz.prog 189 [.slice p M.length c] H (fun v h => ∃ K bs, v = .slice (some ⟨K, 0, none⟩) M.length M.length ∧ RowsAt h K bs n M ∧ Ext H h ∧ Closed h ∧ own K = true ∧ K < h.fresh ∧ H.fresh ≤ K ∧ (∀ b ∈ bs, own b = true ∧ b < h.fresh ∧ H.fresh ≤ b) ∧ h.low ≤ h.fresh) := by
 obtain ⟨Q, hQ, hs, hr⟩ := hg.out;have h0' : 0 < Q.length := by omega
 obtain ⟨b, o, cs, z, s, ro, rfl, hb, hwQ⟩ := hs.out (by intro e; rw [e] at h0'; simp at h0');rw [← hQ];refine zae Tryz.func189 rfl rfl rfl fun hc => ?_
 refine zst ?_;apply zar;refine zaA (α := Nat × Value × List Nat × List (Option ABlk)) (fun a => [(0, .slice (some ⟨b, o, none⟩) Q.length c), (3, a.2.1), (4, I a.1)]) (fun a => ext H H.fresh a.2.2.2) (fun a => ClnK H n M a.1 a.2.1 a.2.2.1 a.2.2.2) (fun a => M.length - a.1) (fun a ha ih => ?_) (0, .slice none 0 0, [], []) ⟨by omega, .nil, rfl, by intro j h; simp at h, .nil⟩ zsb (.refl _);obtain ⟨i, v, bs, L⟩ := a;have ih' := fun i' v' bs' L' h1 h2 => ih (i', v', bs', L') h1 h2
 simp only at ha ih' ⊢;clear ih;have hle := ha.le;have hlen := ha.len;refine zst ?_;refine zq0 ?_;apply zaf;refine zai rfl (fun u => ?_) (fun u => ?_)
 ·have u : i < Q.length := by
   have u := of_decide_eq_true u;omega
  have hi : i < M.length := by omega
  have hrow := hr i hi u;have hri : M[i].length = n := zb1 hw hi;obtain ⟨b2, o2, cs2, z2, s2, ro2, e2, hb2, hw2⟩ := hrow.out (by intro e; rw [e] at hri; simp at hri; omega);have hbulk := zfd (f := s1q) (w := 1) (fun _ => rfl) hw2;obtain ⟨q, hq⟩ : ∃ q, q = Q[i] := ⟨_, rfl⟩
  rw [← hq] at e2;obtain ⟨q1, q2⟩ := q;simp only at e2;subst e2;clear hg hs hr hw2;have hne : M[i] ≠ [] := by intro e; rw [e] at hri; simp at hri; omega
  refine zst ?_;refine zq19 ?_;refine zst ?_;refine zq2 ?_;apply zad; exact zaw rfl (by exact zaj (by assumption) (by assumption)) rfl (by exact zom (by assumption) (by omega)); exact rfl;rw [← hq];simp only;refine zgz (f := s1q) (m := 1) (lst := []) (xs := M[i]) (k0 := L.length) hc ⟨_, List.getElem?_concat_length⟩ (fun _ => rfl) (fun _ => rfl) (by rw [hri]; rfl) rfl rfl rfl rfl rfl (zaj hc hb2) hbulk hne (by show (2 * (0 + M[i].length) + 1000) * 16 ≤ 2 ^ 48; rw [hri]; omega) (Nat.ne_of_beq_eq_false rfl) (Nat.ne_of_beq_eq_false rfl) rfl (fun L2 hv2 ho2 hl2 => ?_);obtain ⟨s3, g3⟩ := hv2.out;rw [show (([] : List Rat) ++ M[i]).length = n from hri]
  have hkeep1 : ∀ (j : Nat) y, L[j]? = some (some y) → L2[j]? = some (some y) := fun j y hy => by
   have hj := (List.getElem?_eq_some_iff.1 hy).1;rw [ho2 j (by rw [List.length_append]; omega) (by omega), List.getElem?_append_left hj]; exact hy
  rw [List.length_append] at g3 hl2 ⊢;simp only [List.length_singleton, List.nil_append] at g3 hl2 ⊢;have hlst2 : Lst H L2 1 (rwV n) 0 v bs := ha.lst.stayAll fun j y _ hy => hkeep1 j y hy
  refine zq19 ?_;refine zi8 (xs := [nb H (L.length + 1)]) (lst := bs) hc (hlst2.app _) (Nat.zero_le _) (fun _ => rfl) (fun _ => rfl) rfl rfl rfl rfl rfl rfl (zaa List.getElem?_concat_length) rfl (by simp) ?_ (Nat.ne_of_beq_eq_false rfl) (Nat.ne_of_beq_eq_false rfl) rfl (fun v' L4 hv' hkeep hlen4 => ?_)
  ·exact Nat.le_trans (Nat.mul_le_mul_right _ (by simp only [List.length_cons, List.length_nil]; omega : _ ≤ 30000)) (Nat.le_of_ble_eq_true rfl)
  have hk4 : ∀ (k : Nat) (r : List Rat) s, r ≠ [] → L2[k]? = some (some (.cells (r.flatMap s1q) 1 s false)) → L4[k]? = some (some (.cells (r.flatMap s1q) 1 s false)) := fun k r s hr hk => hkeep k _ (getApp hk) fun hb => zff hr hb
  refine zst ?_;refine zq4 ?_;refine zst ?_;refine zbn zsb (ih' (i + 1) v' (bs ++ [nb H (L.length + 1)]) L4 (by omega) ⟨by omega, hv', by rw [List.length_append, hlen]; rfl, fun j hj hj2 => ?_, ?_⟩)
  ·rw [List.length_append, List.length_singleton] at hj;rcases Nat.lt_or_ge j bs.length with h1 | h1
   ·obtain ⟨k, hk1, s4, hk2⟩ := ha.row j h1 hj2;have hnj : M[j] ≠ [] := by have := zb1 hw hj2; intro e; rw [e] at this; simp at this; omega
    exact ⟨k, by rw [List.getElem_append_left h1]; exact hk1, s4, hk4 k _ s4 hnj (hkeep1 k _ hk2)⟩
   ·have e : j = i := by omega
    subst e;exact ⟨L.length + 1, by rw [List.getElem_append_right h1]; simp, s3, hk4 _ _ s3 hne g3⟩
  ·rw [List.nodup_append];refine ⟨ha.nodup, by simp, fun a h1 b h2 => ?_⟩;rw [List.mem_singleton.1 h2];obtain ⟨j, hj, rfl⟩ := List.getElem_of_mem h1;obtain ⟨k, hk1, s4, hk2⟩ := ha.row j hj (by omega);rw [hk1];have := (List.getElem?_eq_some_iff.1 hk2).1;intro e;have := zfM.1 e;omega
 ·have u : i = M.length := by
   have u := of_decide_eq_false u;omega
  subst u;have hbne : bs ≠ [] := by intro e; rw [e] at hlen; simp at hlen; omega
  rcases ha.lst.out with ⟨e, _⟩ | ⟨_, k, _, rfl, hk⟩
  ·exact absurd e hbne
  have hkl := (List.getElem?_eq_some_iff.1 hk).1;have hnb : ∀ j, j < L.length → nb H j < (ext H H.fresh L).fresh := fun j hj => by rw [zal]; simp only [nb]; omega
  apply zap;apply zaq; exact rfl;refine zst ?_;refine zo7 rfl ⟨nb H k, bs, by rw [hlen, ← hQ]; rfl, ⟨hlen, hw, ⟨1, true, ?_⟩, fun j hj hj2 => ?_, ha.nodup, fun hm => ?_⟩, ?_, ?_, zat _, hnb k hkl, zbf _, fun b hb => ?_, ?_⟩
  ·have := zaa (H := H) (lo := H.fresh) hk;rw [zdl] at this; exact this
  ·obtain ⟨k2, hk1, s4, hk2⟩ := ha.row j hj2 hj;refine ⟨1, s4, ?_⟩;rw [hk1];have := zaa (H := H) (lo := H.fresh) hk2;rw [zdl] at this; exact this
  ·obtain ⟨j, hj, e⟩ := List.getElem_of_mem hm;obtain ⟨k2, hk1, s4, hk2⟩ := ha.row j hj (by omega);rw [hk1] at e;have e := zfM.1 e;subst e;rw [hk2] at hk;have hnj : M[j]'(by omega) ≠ [] := by have := zb1 hw (i := j) (by omega); intro e; rw [e] at this; simp at this; omega
   exact zff hnj hbne (Option.some.inj (Option.some.inj hk))
  ·exact Ext.trans (zag hc (lo := H.fresh) (L := L)) (fun b y h => h)
  ·exact zbp (lo := H.fresh) (L := L) hc
  ·obtain ⟨j, hj, rfl⟩ := List.getElem_of_mem hb;obtain ⟨k2, hk1, s4, hk2⟩ := ha.row j hj (by omega);rw [hk1];exact ⟨zat _, hnb k2 (List.getElem?_eq_some_iff.1 hk2).1, zbf _⟩
  ·show min (min H.fresh H.fresh) H.low ≤ (ext H H.fresh L).fresh;rw [zal]; have := zbf (H := H) L.length; omega
def fstC : Code → Code
 | .seq a _ => a
 | c => c
def sndK : Code → Code
 | .seq _ b => b
 | c => c
def inC : Code → Code
 | .block _ b => b
 | .loop b => b
 | .scope b => b
 | c => c
noncomputable def pivC : Code := (Tryz.f142.body.getD .skip)
noncomputable def pB0 : Code := inC (inC (sndK (fstC (sndK (sndK (sndK pivC))))))
noncomputable def pQ : Code := inC (fstC (sndK pB0))
noncomputable def pFind : Code := inC (inC (fstC (sndK pQ)))
noncomputable def pR10 : Code := sndK (sndK (sndK pQ))
noncomputable def pR12 : Code := sndK (sndK pR10)
noncomputable def pScale : Code := inC (inC (sndK (fstC (sndK pR12))))
noncomputable def pR17 : Code := sndK (sndK pR12)
noncomputable def pEO : Code := inC (inC (sndK (fstC pR17)))
noncomputable def pE : Code := inC (fstC (sndK pEO))
noncomputable def pEI : Code := inC (inC (sndK (sndK (sndK pE))))
theorem zg7 {M : Mat} {i c : Nat} (hi : i < M.length) (hc : c < M[i].length) : ent M i c = M[i][c] := by
 unfold ent; rw [List.getElem?_eq_getElem hi]; simp only [Option.getD_some]; rw [List.getElem?_eq_getElem hc]; rfl
abbrev matV (K r : Nat) : Value := .slice (some ⟨K, 0, none⟩) r r
set_option maxHeartbeats 4000000 in
theorem find_w {H h : AHeap} {lo K n c r : Nat} {L : List (Option ABlk)} {bs : List Nat} {M : Mat} {v4 : Value} {Qe : Nat → St → Prop} {Qr : St → Prop} (h1 : MatK H h K bs n M) (hc : c < n) (hr : r ≤ M.length) (hm : M.length ≤ 1000) (hn : n ≤ 1000)
  (hk : ∀ i l, r ≤ i → i ≤ M.length → (∀ j, r ≤ j → j < i → ent M j c = 0) → (i < M.length → ent M i c ≠ 0) → Sub [(0, matV K M.length), (4, v4), (5, I c), (6, I i)] l → Qe 2 ⟨ofA l, [], ext h lo L⟩) :
  LT Tryz.prog none Tryz.f142.ntmps pFind ⟨ofA [(0, matV K M.length), (4, v4), (5, I c), (6, I r)], [], ext h lo L⟩ Qe Qr := by
 have hcl := h1.clo;have hbl := h1.rows.len;obtain ⟨z, s, hg⟩ := h1.rows.top;refine zcG (fun i => [(0, matV K M.length), (4, v4), (5, I c), (6, I i)]) (fun i => r ≤ i ∧ ∀ j, r ≤ j → j < i → ent M j c = 0) M.length (fun i hi hJ ih => ?_) r hr ⟨Nat.le_refl _, by intros; omega⟩ zsb;by_cases u : i < M.length
 ·obtain ⟨z2, s2, hg2⟩ := h1.rows.row i u (by omega);have hrl := zb1 h1.rows.wide u;have e1 : decide ((i : Int) < (M.length : Int)) = true := decide_eq_true (by omega);have he := zg7 u (by rw [hrl]; exact hc);refine zst ?_;refine zq0 ?_;refine zs1 ?_;rw [e1];refine zst ?_;refine zq22 ?_;apply zay (hd := rfl) (hl := rfl); exact zaw rfl (by exact zaj (by assumption) (by assumption)) rfl (by exact zdH (by omega)); exact rfl;refine zst ?_;refine zq22 ?_;apply zay (hd := rfl) (hl := rfl); exact zaw rfl (by exact zaj (by assumption) (by assumption)) rfl (by exact zdH (by omega)); exact rfl;apply zaW (hg := rfl) (hl := rfl) (ht := rfl); exact zlq; exact rfl;(iterate 2 (refine zs1 ?_));by_cases hz : M[i][c]'(by rw [hrl]; exact hc) = 0
  ·refine zam rfl (decide_eq_true hz) ?_;refine zst ?_;refine zq4 ?_;refine zst ?_;refine zbn zsb (ih (i + 1) (by omega) (by omega) ⟨by omega, fun j a1 a2 => ?_⟩);rcases Nat.lt_or_ge j i with a3 | a3
   ·exact hJ.2 j a1 a3
   ·have : j = i := by omega
    subst this; rw [he]; exact hz
  ·refine zah rfl (decide_eq_false hz) ?_;apply zap;exact hk i _ hJ.1 hi hJ.2 (fun _ => by rw [he]; exact hz) zsb
 ·have e1 : decide ((i : Int) < (M.length : Int)) = false := decide_eq_false (by omega);refine zst ?_;refine zq0 ?_;refine zs1 ?_;rw [e1];refine zst ?_;refine zah rfl rfl ?_;apply zap;exact hk i _ hJ.1 hi hJ.2 (fun a => absurd a u) zsb
abbrev preK (l g : List Rat) (k : Nat) : List Rat := g.take k ++ l.drop k
section
variable {l g : List Rat} {k : Nat}
theorem zeJ (h : g.length = l.length) (hk : k ≤ l.length) : (preK l g k).length = l.length := by simp [preK]; omega
theorem zk9 (h : g.length = l.length) (hk : k < l.length) (hp : k < (preK l g k).length) : (preK l g k)[k] = l[k] := by
 rw [List.getElem_append_right (by simp; omega)];have e : (g.take k).length = k := by simp; omega
 simp only [List.getElem_drop]
 congr 1; omega
theorem zim (h : g.length = l.length) (hk : k < l.length) : (preK l g k).set k (g[k]'(by omega)) = preK l g (k + 1) := by
 have e : (g.take k).length = k := by simp; omega
 refine List.ext_getElem (by simp [preK]; omega) fun i h1 h2 => ?_
 rw [List.getElem_set];by_cases e1 : k = i
 ·subst e1;rw [if_pos rfl, List.getElem_append_left (by simp; omega), List.getElem_take]
 ·rw [if_neg e1];by_cases e2 : i < k
  ·rw [List.getElem_append_left (by simp; omega), List.getElem_append_left (by simp; omega), List.getElem_take, List.getElem_take]
  ·rw [List.getElem_append_right (by simp; omega), List.getElem_append_right (by simp; omega)];simp only [List.getElem_drop, List.length_take]
   congr 1; omega
theorem zgL : preK l g 0 = l := by simp [preK]
theorem zin (h : g.length = l.length) : preK l g l.length = g := by simp [preK, ← h]
end
set_option maxHeartbeats 8000000 in
theorem scale_w {H h : AHeap} {lo K n r : Nat} {c : Int} {L : List (Option ABlk)} {bs : List Nat} {M : Mat} {v4 : Value} {b : Rat} {Qe : Nat → St → Prop} {Qr : St → Prop} (hcl : Closed H) (h1 : MatK H h K bs n M) (hr : r < M.length) (hm : M.length ≤ 1000) (hn : n ≤ 1000)
  (hs : ∀ x ∈ M[r], RSz 100 x) (hb : RSz 100 b)
  (hk : ∀ h' lo' l, h'.next = h.next → MatK H h' K bs n (scaleM M r b) → Sub [(0, matV K M.length), (4, v4), (5, I c), (7, I r)] l → Qe 4 ⟨ofA l, [], ext h' lo' L⟩) :
  LT Tryz.prog none Tryz.f142.ntmps pScale ⟨ofA [(0, matV K M.length), (4, v4), (5, I c), (7, I r), (8, sV b), (9, I (0 : Nat))], [], ext h lo L⟩ Qe Qr := by
 have hrl := zb1 h1.rows.wide hr;have hbl := h1.rows.len;obtain ⟨row, er⟩ : ∃ row, row = M[r] := ⟨_, rfl⟩
 rw [← er] at hs hrl
 have esc : scaleM M r b = M.set r (row.map fun a => a * b) := by
  unfold scaleM; rw [List.getElem?_eq_getElem hr, er]; rfl
 have hgl : (row.map fun a => a * b).length = row.length := by simp
 have h0 : M.set r (preK row (row.map fun a => a * b) 0) = M := by rw [zgL, er]; exact List.set_getElem_self hr
 have hall := zin hgl;rw [esc] at hk;obtain ⟨g, eg⟩ : ∃ g, g = row.map fun a => a * b := ⟨_, rfl⟩
 have hge : ∀ k (hk : k < row.length) (hk2 : k < g.length), g[k] = row[k] * b := fun k hk hk2 => by subst eg; simp
 rw [← eg] at h0 hall hgl hk;clear eg esc er;refine zaA (α := Nat × AHeap × Nat) (fun a => [(0, matV K M.length), (4, v4), (5, I c), (7, I r), (8, sV b), (9, I a.1)]) (fun a => ext a.2.1 a.2.2 L) (fun a => a.1 ≤ n ∧ MatK H a.2.1 K bs n (M.set r (preK row g a.1)) ∧ a.2.1.next = h.next) (fun a => n - a.1) (fun a ha ih => ?_) (0, h, lo) ⟨Nat.zero_le _, by simp only; rw [h0]; exact h1, rfl⟩ zsb (.refl _);obtain ⟨k, h2, lo2⟩ := a;obtain ⟨hkn, hM, hnx⟩ := ha;simp only at hkn hM hnx ih ⊢;have ih' := fun k' h' lo' a1 a2 a3 a4 => ih (k', h', lo') a1 ⟨a2, a3, a4⟩
 simp only at ih';clear ih h1 h0;have hcl2 := hM.clo;obtain ⟨z, s, hg⟩ := hM.rows.top;have hr2 : r < bs.length := by omega
 have hrs : r < (M.set r (preK row g k)).length := by rw [List.length_set]; exact hr
 obtain ⟨z2, s2, hg2⟩ := hM.rows.row r hrs hr2;rw [List.getElem_set_self] at hg2;have hb0 := hM.b0 _ (List.getElem_mem hr2);have hpl : (preK row g k).length = n := by rw [zeJ hgl (by omega)]; exact hrl
 by_cases u : k < n
 ·have e1 : decide ((k : Int) < (n : Int)) = true := decide_eq_true (by omega);have hx := zk9 (l := row) (g := g) (k := k) hgl (by omega) (by omega);have hxs := hs _ (List.getElem_mem (show k < row.length by omega));have hst := zim (l := row) (g := g) (k := k) hgl (by omega);rw [hge k (by omega) (by omega), ← hx] at hst;have hT := hM.turn hcl hrs hr2 (preK row g (k + 1)) (by rw [zeJ hgl (by omega)]; exact hrl) (z := z2) (s := s2) trivial;rw [List.set_set] at hT;have cm := fun lo L => zrw (H := ext h2 lo L) hxs hb
  rw [← hx] at cm;refine zst ?_;refine zq2 ?_;refine zq45 ?_;refine zst ?_;refine zq0 ?_;apply zaf;refine zam rfl e1 ?_;refine zst ?_;apply zax (by assumption); decide +kernel;(iterate 2 (refine zq5 ?_));refine zq6 ?_;refine zq46 ?_;(iterate 3 (refine zq5 ?_));refine zq6 ?_;refine zq46 ?_;refine zq5 ?_;refine zq6 ?_;refine zq46 ?_;refine zq5 ?_;apply zaC (ht := rfl); exact cm _ _; exact rfl;refine zq6 ?_;refine zf5 (b := bs[r]) (x := .cells ((preK row g (k + 1)).map sV) z2 s2 false) rfl (by decide +kernel) hcl2 hb0.1 hb0.2.1 (zav rfl rfl (zaj hcl2 hg2) rfl (by rw [← hst]; exact zbj (g := sV) (by omega) rfl rfl) hb0.1) ?_;apply zaz;refine zst ?_;refine zq4 ?_;refine zst ?_;simp only [List.map_nil, List.append_nil];exact zaN zsb (.refl _) (ih' (k + 1) _ _ (by omega) (by omega) hT hnx)
 ·have e1 : decide ((k : Int) < (n : Int)) = false := decide_eq_false (by omega);have : k = n := by omega
  subst this;refine zst ?_;refine zq2 ?_;refine zq45 ?_;refine zst ?_;refine zq0 ?_;apply zaf;refine zah rfl e1 ?_;apply zap;rw [hrl] at hall;rw [hall] at hM;exact hk h2 lo2 _ hnx hM zsb
set_option maxHeartbeats 8000000 in
theorem elimI_w {H h : AHeap} {lo K n r i : Nat} {c : Int} {L : List (Option ABlk)} {bs : List Nat} {M : Mat} {v4 : Value} {t : Rat} {Qe : Nat → St → Prop} {Qr : St → Prop} (hcl : Closed H) (h1 : MatK H h K bs n M) (hr : r < M.length) (hi : i < M.length) (hir : i ≠ r) (hm : M.length ≤ 1000) (hn : n ≤ 1000)
  (hs : ∀ x ∈ M[i], RSz 100 x) (hp : ∀ x ∈ M[r], RSz 100 x ∧ RSz 100 (t * x)) (ht : RSz 100 t)
  (hk : ∀ h' lo' l, h'.next = h.next → MatK H h' K bs n (M.set i (subR t M[i] M[r])) → Sub [(0, matV K M.length), (4, v4), (5, I c), (7, I r), (10, I i)] l → Qe 8 ⟨ofA l, [], ext h' lo' L⟩) :
  LT Tryz.prog none Tryz.f142.ntmps pEI ⟨ofA [(0, matV K M.length), (4, v4), (5, I c), (7, I r), (10, I i), (11, sV t), (12, I (0 : Nat))], [], ext h lo L⟩ Qe Qr := by
 have hrl := zb1 h1.rows.wide hi;have hrl2 := zb1 h1.rows.wide hr;have hbl := h1.rows.len;have hrs : r < bs.length := by omega
 have hi2 : i < bs.length := by omega
 obtain ⟨row, er⟩ : ∃ row, row = M[i] := ⟨_, rfl⟩
 obtain ⟨prow, ep⟩ : ∃ row, row = M[r] := ⟨_, rfl⟩
 rw [← er] at hs hrl hk;rw [← ep] at hp hrl2 hk;have hgl : (subR t row prow).length = row.length := zib t (by omega)
 have hge : ∀ k (hk : k < row.length) (hk2 : k < prow.length) (hk3 : k < (subR t row prow).length), (subR t row prow)[k] = row[k] - t * prow[k] := fun k hk hk2 hk3 => by
  have := zic t (l := row) (m := prow) k (by omega);rw [List.getElem?_eq_getElem hk, List.getElem?_eq_getElem hk2, List.getElem?_eq_getElem hk3] at this;exact this
 have h0 : M.set i (preK row (subR t row prow) 0) = M := by rw [zgL, er]; exact List.set_getElem_self hi
 have hall := zin hgl;obtain ⟨g, h0, hall, hgl, hk, hge⟩ : ∃ g, M.set i (preK row g 0) = M ∧ preK row g row.length = g ∧ g.length = row.length ∧ (∀ h' lo' l, h'.next = h.next → MatK H h' K bs n (M.set i g) → Sub [(0, matV K M.length), (4, v4), (5, I c), (7, I r), (10, I i)] l → Qe 8 ⟨ofA l, [], ext h' lo' L⟩) ∧ ∀ k (hk : k < row.length) (hk2 : k < prow.length) (hk3 : k < g.length), g[k] = row[k] - t * prow[k] := ⟨_, h0, hall, hgl, hk, hge⟩
 clear er;refine zaA (α := Nat × AHeap × Nat) (fun a => [(0, matV K M.length), (4, v4), (5, I c), (7, I r), (10, I i), (11, sV t), (12, I a.1)]) (fun a => ext a.2.1 a.2.2 L) (fun a => a.1 ≤ n ∧ MatK H a.2.1 K bs n (M.set i (preK row g a.1)) ∧ a.2.1.next = h.next) (fun a => n - a.1) (fun a ha ih => ?_) (0, h, lo) ⟨Nat.zero_le _, by simp only; rw [h0]; exact h1, rfl⟩ zsb (.refl _);obtain ⟨k, h2, lo2⟩ := a;obtain ⟨hkn, hM, hnx⟩ := ha;simp only at hkn hM hnx ih ⊢;have ih' := fun k' h' lo' a1 a2 a3 a4 => ih (k', h', lo') a1 ⟨a2, a3, a4⟩
 simp only at ih';clear ih h1 h0;have hcl2 := hM.clo;obtain ⟨z, s, hg⟩ := hM.rows.top;have his : i < (M.set i (preK row g k)).length := by rw [List.length_set]; exact hi
 have hrr : r < (M.set i (preK row g k)).length := by rw [List.length_set]; exact hr
 obtain ⟨z2, s2, hg2⟩ := hM.rows.row i his hi2;obtain ⟨z3, s3, hg3⟩ := hM.rows.row r hrr hrs;rw [List.getElem_set_self] at hg2;rw [List.getElem_set_ne hir, ← ep] at hg3;have hb0 := hM.b0 _ (List.getElem_mem hi2);have hpl : (preK row g k).length = n := by rw [zeJ hgl (by omega)]; exact hrl
 by_cases u : k < n
 ·have e1 : decide ((k : Int) < (n : Int)) = true := decide_eq_true (by omega);have hx := zk9 (l := row) (g := g) (k := k) hgl (by omega) (by omega);have hxs := hs _ (List.getElem_mem (show k < row.length by omega));have hps := hp _ (List.getElem_mem (show k < prow.length by omega));have hst := zim (l := row) (g := g) (k := k) hgl (by omega);rw [hge k (by omega) (by omega) (by omega), ← hx] at hst;have hT := hM.turn hcl his hi2 (preK row g (k + 1)) (by rw [zeJ hgl (by omega)]; exact hrl) (z := z2) (s := s2) trivial;rw [List.set_set] at hT;have cm := fun lo L => zrw (H := ext h2 lo L) ht hps.1
  have cs := fun lo L => subQ_c (H := ext h2 lo L) hxs hps.2
  rw [← hx] at cs;clear hM hs hp hps hxs hx hge hall;refine zst ?_;refine zq2 ?_;refine zq45 ?_;refine zst ?_;refine zq0 ?_;apply zaf;refine zam rfl e1 ?_;refine zst ?_;apply zax (by assumption); decide +kernel;(iterate 2 (refine zq5 ?_));refine zq6 ?_;refine zq46 ?_;(iterate 3 (refine zq5 ?_));refine zq6 ?_;refine zq46 ?_;refine zq5 ?_;refine zq6 ?_;refine zq46 ?_;(iterate 3 (refine zq5 ?_));refine zq6 ?_;refine zq46 ?_;refine zq5 ?_;refine zq6 ?_;refine zq46 ?_;apply zaC (ht := rfl); exact cm _ _; exact rfl;apply zaC (ht := rfl); exact cs _ _; exact rfl;refine zq6 ?_;refine zf5 (b := bs[i]) (x := .cells ((preK row g (k + 1)).map sV) z2 s2 false) rfl (by decide +kernel) hcl2 hb0.1 hb0.2.1 (zav rfl rfl (zaj hcl2 hg2) rfl (by rw [← hst]; exact zbj (g := sV) (by omega) rfl rfl) hb0.1) ?_;apply zaz;refine zst ?_;refine zq4 ?_;refine zst ?_;simp only [List.map_nil, List.append_nil];exact zaN zsb (.refl _) (ih' (k + 1) _ _ (by omega) (by omega) hT hnx)
 ·have e1 : decide ((k : Int) < (n : Int)) = false := decide_eq_false (by omega);have : k = n := by omega
  subst this;refine zst ?_;refine zq2 ?_;refine zq45 ?_;refine zst ?_;refine zq0 ?_;apply zaf;refine zah rfl e1 ?_;apply zap;rw [hrl] at hall;rw [hall] at hM;exact hk h2 lo2 _ hnx hM zsb
section
variable {M : Mat} {r c i : Nat}
theorem zbe : (elimN M r c i).length = M.length := by simp [elimN]
theorem zcM {k : Nat} (hk : k < M.length) (h2 : k < (elimN M r c i).length) : (elimN M r c i)[k] = if k < i then elimR M r c k else M[k] := by
 simp only [elimN, List.getElem_map, List.getElem_range];rw [List.getElem?_eq_getElem hk]; rfl
theorem zhQ (hr : r < M.length) : elimR M r c r = M[r] := by
 unfold elimR; rw [if_pos rfl, List.getElem?_eq_getElem hr]; rfl
theorem zpb (hi : i < M.length) (h2 : i < (elimN M r c i).length) : (elimN M r c i)[i] = M[i] := by
 rw [zcM hi h2, if_neg (by omega)]
theorem zpc (hr : r < M.length) (h2 : r < (elimN M r c i).length) : (elimN M r c i)[r] = M[r] := by
 rw [zcM hr h2, zhQ hr]; split <;> rfl
theorem zm2 : elimN M r c 0 = M := by
 refine List.ext_getElem zbe fun k h1 h2 => ?_
 rw [zcM h2 h1, if_neg (by omega)]
theorem zpd : elimN M r c M.length = elimM M r c := by
 refine List.ext_getElem (by rw [zbe, zeW]) fun k h1 h2 => ?_
 have hk : k < M.length := by rw [zbe] at h1; exact h1
 rw [zcM hk h1, if_pos hk];simp only [elimM, List.getElem_map, List.getElem_range]
theorem zhR (hi : i < M.length) (h : elimR M r c i = M[i]) : elimN M r c (i + 1) = elimN M r c i := by
 refine List.ext_getElem (by rw [zbe, zbe]) fun k h1 h2 => ?_
 have hk : k < M.length := by rw [zbe] at h1; exact h1
 rw [zcM hk h1, zcM hk h2];by_cases e : k = i
 ·subst e; rw [if_pos (by omega), if_neg (by omega)]; exact h
 ·by_cases e2 : k < i
  ·rw [if_pos (by omega), if_pos e2]
  ·rw [if_neg (by omega), if_neg e2]
theorem zpa (hi : i < M.length) : (elimN M r c i).set i (elimR M r c i) = elimN M r c (i + 1) := by
 refine List.ext_getElem (by rw [List.length_set, zbe, zbe]) fun k h1 h2 => ?_
 have hk : k < M.length := by rw [zbe] at h2; exact h2
 rw [List.getElem_set, zcM hk h2];by_cases e : i = k
 ·subst e; rw [if_pos rfl, if_pos (by omega)]
 ·rw [if_neg e, zcM hk];by_cases e2 : k < i
  ·rw [if_pos e2, if_pos (by omega)]
  ·rw [if_neg e2, if_neg (by omega)]
end
set_option maxHeartbeats 8000000 in
theorem elimO_w {H h : AHeap} {lo K n r c : Nat} {L : List (Option ABlk)} {bs : List Nat} {M : Mat} {v4 : Value} {Qe : Nat → St → Prop} {Qr : St → Prop} (hcl : Closed H) (h1 : MatK H h K bs n M) (hr : r < M.length) (hc : c < n) (hm : M.length ≤ 1000) (hn : n ≤ 1000)
  (hs : ∀ i k, RSz 100 (ent M i k)) (hp : ∀ i k, RSz 100 (ent M i c * ent M r k))
  (hk : ∀ h' lo' l, h'.next = h.next → MatK H h' K bs n (elimM M r c) → Sub [(0, matV K M.length), (4, v4), (5, I c), (7, I r)] l → Qe 6 ⟨ofA l, [], ext h' lo' L⟩) :
  LT Tryz.prog none Tryz.f142.ntmps pEO ⟨ofA [(0, matV K M.length), (4, v4), (5, I c), (7, I r), (10, I (0 : Nat))], [], ext h lo L⟩ Qe Qr := by
 have hbl := h1.rows.len;have hw := h1.rows.wide
 have hrow : ∀ i (hi : i < M.length), ∀ x ∈ M[i], RSz 100 x := fun i hi x hx => by
  obtain ⟨k, hk, rfl⟩ := List.getElem_of_mem hx;have := hs i k;rw [zg7 hi hk] at this; exact this
 rw [← zpd] at hk;refine zaA (α := Nat × AHeap × Nat) (fun a => [(0, matV K M.length), (4, v4), (5, I c), (7, I r), (10, I a.1)]) (fun a => ext a.2.1 a.2.2 L) (fun a => a.1 ≤ M.length ∧ MatK H a.2.1 K bs n (elimN M r c a.1) ∧ a.2.1.next = h.next) (fun a => M.length - a.1) (fun a ha ih => ?_) (0, h, lo) ⟨Nat.zero_le _, by simp only; rw [zm2]; exact h1, rfl⟩ zsb (.refl _);obtain ⟨i, h2, lo2⟩ := a;obtain ⟨hin, hM, hnx⟩ := ha;simp only at hin hM hnx ih ⊢;have ih' := fun k' h' lo' a1 a2 a3 a4 => ih (k', h', lo') a1 ⟨a2, a3, a4⟩
 simp only at ih';clear ih h1;have hcl2 := hM.clo;obtain ⟨z, s, hg⟩ := hM.rows.top;by_cases u : i < M.length
 ·have e1 : decide ((i : Int) < (M.length : Int)) = true := decide_eq_true (by omega);have hiN : i < (elimN M r c i).length := by rw [zbe]; exact u
  have hrN : r < (elimN M r c i).length := by rw [zbe]; exact hr
  obtain ⟨z2, s2, hg2⟩ := hM.rows.row i hiN (by omega);have hNi := zpb (r := r) (c := c) u hiN;have hNr := zpc (i := i) (c := c) hr hrN;have hil := zb1 hw u;have hrl := zb1 hw hr;rw [hNi] at hg2;have hix := zg7 u (show c < M[i].length by omega);obtain ⟨x, ex⟩ : ∃ x, x = M[i][c]'(by omega) := ⟨_, rfl⟩
  rw [← ex] at hix;refine zst ?_;refine zq0 ?_;apply zaf;refine zam rfl e1 ?_;refine zst ?_;refine zq2 ?_;refine zq45 ?_;refine zst ?_;refine zq2 ?_;refine zq45 ?_;refine zst ?_;refine zq0 ?_;refine zs1 ?_;rw [← ex];by_cases e : i = r
  ·have e2 : ((i : Int) == (r : Int)) = true := by simp [e]
   have hsame := zhR (r := r) (c := c) u (by subst e; exact zhQ u)
   skip;rw [e2];refine zst ?_;refine zam rfl rfl ?_;apply zap;apply zaq; exact rfl;refine zst ?_;refine zq4 ?_;refine zst ?_;exact zaN zsb (.refl _) (ih' (i + 1) _ _ (by omega) (by omega) (by rw [hsame]; exact hM) hnx)
  ·have e2 : ((i : Int) == (r : Int)) = false := by simp; omega
   have eR : elimR M r c i = subR (ent M i c) M[i] M[r] := by
    unfold elimR; rw [if_neg e, List.getElem?_eq_getElem u, List.getElem?_eq_getElem hr]; rfl
   skip;rw [e2];refine zst ?_;apply zaW (hg := rfl) (hl := rfl) (ht := rfl); exact zlq; exact rfl;(iterate 2 (refine zs1 ?_));by_cases hz : x = 0
   ·have hsame := zhR (r := r) (c := c) u (by rw [eR, hix, hz]; exact zi0 (by omega));refine zam rfl (decide_eq_true hz) ?_;apply zap;apply zaq; exact rfl;refine zst ?_;refine zq4 ?_;refine zst ?_;exact zaN zsb (.refl _) (ih' (i + 1) _ _ (by omega) (by omega) (by rw [hsame]; exact hM) hnx)
   ·refine zah rfl (decide_eq_false hz) ?_;have hset := zpa (r := r) (c := c) u;rw [eR, hix] at hset
    have hpx : ∀ y ∈ M[r], RSz 100 y ∧ RSz 100 (x * y) := fun y hy => by
     refine ⟨hrow r hr y hy, ?_⟩;obtain ⟨k, hk, rfl⟩ := List.getElem_of_mem hy;have := hp i k;rw [hix, zg7 hr hk] at this; exact this
    have hI := fun Qe Qr => elimI_w (Qe := Qe) (Qr := Qr) (lo := lo2) (c := (c : Int)) (L := L) (v4 := v4) (t := x) hcl hM hrN hiN e (by rw [zbe]; exact hm) hn (by rw [hNi]; exact hrow i u) (by rw [hNr]; exact hpx) (by have := hs i c; rwa [hix] at this)
    rw [hNi, hNr, zbe] at hI;refine zst ?_;apply zar;refine zaN zsb (.refl _) (hI _ _ (fun h' lo' l hnx' hM' hsub => ?_));rw [hset] at hM';apply zaq; exact rfl;refine zef hsub ?_;refine zst ?_;refine zq4 ?_;refine zst ?_;exact zaN zsb (.refl _) (ih' (i + 1) _ _ (by omega) (by omega) hM' (hnx'.trans hnx))
 ·have e1 : decide ((i : Int) < (M.length : Int)) = false := decide_eq_false (by omega);have : i = M.length := by omega
  subst this;refine zst ?_;refine zq0 ?_;apply zaf;refine zah rfl e1 ?_;apply zap;exact hk h2 lo2 _ hnx hM zsb
set_option maxHeartbeats 4000000 in
theorem zqd {H : AHeap} {x : Rat} (hx : RSz 100 x) (hx0 : x ≠ 0) : Ret Tryz.prog 191 [.string (tx (rt x))] H (.string (tx (rt x⁻¹))) H := by
 have hx1 := hx.n;have hx2 := hx.d;have h0 : x.num ≠ 0 := fun e => hx0 (Rat.num_eq_zero.1 e)
 have hred : Nat.gcd x.den x.num.natAbs = 1 := by rw [Nat.gcd_comm]; exact x.reduced
 have einv : rt x⁻¹ = ratQ (decide (x.num < 0)) x.den x.num.natAbs := by
  unfold rt;rw [Rat.num_inv, Rat.den_inv, if_neg h0, Int.natAbs_mul, Int.natAbs_sign_of_ne_zero h0, Nat.one_mul, Int.natAbs_natCast]
  congr 1
  refine decide_eq_decide.2 ?_;have hd := x.den_pos;rcases Int.lt_or_gt_of_ne h0 with h | h
  ·rw [Int.sign_eq_neg_one_of_neg h]; omega
  ·rw [Int.sign_eq_one_of_pos h]; omega
 rw [einv];obtain ⟨a, u, d, ha, hu, hd, erx, ex, hau, nx, eau⟩ := rt_at x;rw [← hu] at hx1 hred;rw [← hd] at hx2 hred;rw [erx, ← hu, ← hd, ← ha];have hu0 : u ≠ 0 := by rw [hu]; omega
 clear hu hd ha erx ex hx einv h0 hx0;refine zae Tryz.func191 rfl rfl rfl fun hc => ?_
 have cp1 := fun lo L => zeL (H := ext H lo L) (neg := a) (u := u) (d := d) (by omega) (by omega) (by omega)
 rw [eau] at cp1;simp only [zal, za2] at cp1;have fr := fun lo (L : List (Option ABlk)) (h8 : L[1]? = some (some (mB d))) (h9 : L[0]? = some (some (mB u))) => zdk (H := ext H lo L) (p := some ⟨nb H 1, 0, none⟩) (q := some ⟨nb H 0, 0, none⟩) (c := ml d) (e := ml u) (x := d) (y := u) (ng := false) (nd := a) (zfW h8) (OldS.new (List.getElem?_eq_some_iff.1 h8).1) (zek (zpq d)) (zfW h9) (OldS.new (List.getElem?_eq_some_iff.1 h9).1) (zek (zpq u)) hu0 (by omega) (by omega)
 have eR : ((if a = true then !false else false) && decide (0 < d)) = a := by
  rw [decide_eq_true (show 0 < d by omega)];cases a <;> rfl
 simp only [eR, hred, Nat.div_one] at fr;clear eR hred;refine zst ?_;apply zac (ht := rfl); exact cp1 _ _; exact rfl;refine zst ?_;refine zq32 ?_;refine zq29 ?_;refine zst ?_;(iterate 2 (refine zq17 ?_));apply zac (ht := rfl); exact fr _ _ rfl rfl; exact rfl;refine zst ?_;exact zab hc rfl rfl ⟨rfl, rfl⟩
end Go.Proofs.YtlejimjgagfalaaGreatDoor
