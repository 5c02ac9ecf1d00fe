/- Contracts, packed: Jh Jn Ud Uf Ug Jo Jp Jq Jw. -/
import Derived.Test.YtkdojgkiclndfaaGreatDoorPz4
import Derived.Test.YtkdojgkiclndfaaGreatDoorPz10
import Derived.Test.YtkdojgkiclndfaaGreatDoorPz24
import Derived.Test.YtkdojgkiclndfaaGreatDoorPz25
import Derived.Test.YtkdojgkiclndfaaGreatDoorPz38
set_option linter.unusedVariables false
set_option linter.unusedSimpArgs false
namespace Go.Proofs.YtkdojgkiclndfaaGreatDoor
section
open Go.RowKit FracM
/-- Parse at a text whose parse is known -/
theorem parse_at (s : ByteArray) (T : Tree) (a er : Int) (w : World) (hs : s.size ≤ maxLen) (hw : WordsV w) (hp : parseT (lst s) = (T, a, er)) :
  Calls Tryz.prog 17 #[.string s] w fun e w' => ∃ mv bv kv, e = .returned (.tuple #[.agg (ndC T.d mv bv kv), .int .i64 a, .int .i64 er]) ∧ TreeAt w' (fun b _ => w.heap.size ≤ b) T (mv, bv, kv) ∧ Below w.heap.size w w' :=
 (pparse_any s w hs hw).mono fun e w' ⟨mv, bv, kv, he, hT, hb⟩ => ⟨mv, bv, kv, by rw [he, hp], by rw [hp] at hT; exact hT, hb⟩
end
section
open Go.RowKit FracM
theorem SeqP.mat {w : World} {P : Nat → Nat → Prop} {A : Option Addr} {n c : Nat} {l : List Mat} (h : SeqP w P 3 (.slice A n c) n (l.flatMap matCells)) (k : Nat) (x : Mat) (hx : l[k]? = some x) :
  ∃ b off, A = some ⟨b, off, none⟩ ∧ w.cell? ⟨b, off + k * 3, none⟩ = some (.string x.1) ∧ w.cell? ⟨b, off + k * 3 + 1, none⟩ = some (.int .i64 x.2.1) ∧ w.cell? ⟨b, off + k * 3 + 2, none⟩ = some (.string x.2.2) := by
 obtain ⟨hl, A', c', hv, h1, h2, h3⟩ := h
 cases hv
 have hlt := (List.getElem?_eq_some_iff.1 hx).1
 have g := fun j hj => flat_get matCells 3 (fun _ => rfl) l k j x hx hj
 have hm : 0 < n := by
  rcases Nat.eq_zero_or_pos n with h0 | h0
  ·subst h0
   have g0 := g 0 (by omega)
   rw [show l.flatMap matCells = [] from List.eq_nil_of_length_eq_zero (by rw [hl])] at g0
   simp [matCells] at g0
  ·exact h0
 obtain ⟨b, off, rfl, hb, hp, hc⟩ := h3 hm
 refine ⟨b, off, rfl, ?_, ?_, ?_⟩
 ·exact hc _ _ ((g 0 (by omega)).trans rfl)
 ·rw [Nat.add_assoc]; exact hc _ _ ((g 1 (by omega)).trans rfl)
 ·rw [Nat.add_assoc]; exact hc _ _ ((g 2 (by omega)).trans rfl)
theorem ba_beq (a b : ByteArray) : (a.toList == b.toList) = decide (a = b) := by
 rw [Bool.eq_iff_iff, beq_iff_eq, decide_eq_true_iff, ByteArray.toList_eq, ByteArray.toList_eq]
 exact ⟨fun h => ByteArray.ext (Array.toList_inj.mp h), fun h => by rw [h]⟩
end
section
open Go.RowKit FracM
theorem postL_app (a b : List Tree) : postL (a ++ b) = postL a ++ postL b := by
 induction a with
 | nil => rfl
 | cons t r ih => rw [List.cons_append, postL, postL, ih, List.append_assoc]
theorem stackM_back : ∀ (l : List Nd) (st st' : List Tree), stackM l st = some st' → postL st' = postL st ++ l := by
 intro l
 induction l with
 | nil => intro st st' h; rw [stackM] at h; cases h; rw [List.append_nil]
 | cons d r ih =>
  intro st st' h
  rw [stackM] at h
  split at h
  ·rw [ih _ _ h, postL_app, postL, postT, postL, List.append_nil, ← List.append_assoc (postL (st.take _)), ← postL_app, List.take_append_drop, List.append_assoc]
   rfl
  ·cases h
/-- a plan is what its tree is compiled to -/
theorem tree_back {l : List Nd} {t : Tree} (h : treeM l = (t, 0)) : postT t = l ∧ validE t = 0 := by
 unfold treeM at h
 split at h
 ·simp at h
 ·split at h
  ·next u hu =>
   split at h
   ·next hv =>
    simp only [Prod.mk.injEq, and_true] at h
    subst h
    have := stackM_back l [] [u] hu
    simp only [postL, List.append_nil, List.nil_append] at this
    exact ⟨this, hv⟩
   ·next hv => simp only [Prod.mk.injEq] at h; exact absurd h.2 hv
  ·simp at h
theorem validE_chk {t : Tree} (h : validE t = 0) : chk t = 0 := by
 unfold validE at h
 split at h
 ·cases h
 ·exact h
theorem post_chk1 : ∀ t, chk t = 0 → ∀ d ∈ postT t, ∃ n, chk1 d n = 0 := Tree.ind fun d ks ih h e he => by
 obtain ⟨h1, h2⟩ := chk_ok h
 rw [postT] at he
 rcases List.mem_append.1 he with he | he
 ·have : ∀ (l : List Tree), (∀ t ∈ l, t ∈ ks) → e ∈ postL l → ∃ n, chk1 e n = 0 := by
   intro l
   induction l with
   | nil => intro _ h; cases h
   | cons x xs ihx =>
    intro hl h
    rw [postL] at h
    rcases List.mem_append.1 h with h | h
    ·exact ih x (hl x (by simp)) (h2 x (hl x (by simp))) e h
    ·exact ihx (fun t ht => hl t (by simp [ht])) h
  exact this ks (fun t ht => ht) he
 ·simp only [List.mem_singleton] at he
  subst he
  exact ⟨_, h1⟩
theorem chk1_rng {d : Nd} {n : Nat} (h : chk1 d n = 0) : rangedB d = true := by
 unfold chk1 at h
 cases hr : rangedB d with
 | true => rfl
 | false =>
  rw [hr] at h
  split at h
  ·cases h
  split at h
  ·cases h
  split at h
  ·cases h
  simp at h
/-- the instructions of a valid plan -/
theorem plan_rng {l : List Nd} (h : (treeM l).2 = 0) : ∀ d ∈ l, rangedB d = true := by
 intro d hd
 obtain ⟨h1, h2⟩ := tree_back (t := (treeM l).1) (by rw [← h])
 rw [← h1] at hd
 obtain ⟨n, hn⟩ := post_chk1 _ (validE_chk h2) d hd
 exact chk1_rng hn
theorem firstM_le {d : Nd} (h : rangedB d = true) (hk : d.kind = 1) : firstM d ≤ 0 := by
 unfold rangedB at h
 rw [if_pos hk] at h
 simp only [Bool.and_eq_true, decide_eq_true_eq] at h
 unfold firstM
 by_cases h0 : d.fn = 0
 ·rw [if_pos h0]; omega
 ·rw [if_neg h0] at h
  simp only [Bool.and_eq_true, decide_eq_true_eq] at h
  rw [if_neg h0]
  split <;> omega
theorem reach_app (r : Int) (a b : List Nd) : reachL r (a ++ b) = reachL (reachL r a) b := by unfold reachL; rw [List.foldl_append]
/-- the law's example -/
def liveQ : List UInt8 := [97, 46, 109, 101, 97, 110, 40, 51, 41, 64, 49, 32, 45, 32, 50]
def liveU : Tree := .node ⟨3, 1, 0, 0, 0, 0, 0, ⟨#[]⟩, [], []⟩ [.node ⟨1, 4, 3, 1, 0, 0, 0, ⟨#[97]⟩, [], []⟩ [], .node ⟨0, 0, 0, 0, 0, 2, 1, ⟨#[]⟩, [], []⟩ []]
theorem live_q : parseT liveQ = (liveU, 0, 0) := by kernel_rfl
theorem live_v : validE liveU = 0 := by kernel_rfl
theorem live_c : compileM liveU = (postT liveU, 0) := if_pos live_v
theorem live_r : reachM (postT liveU) = -3 := by
 unfold reachM
 rw [tree_post live_v]
 rfl
theorem live_b : treeM [⟨3, 0, 0, 0, 0, 0, 0, ⟨#[]⟩, [], []⟩] = (zeroT, 1) := rfl
end
section
open Go.RowKit FracM
def pairE {α β : Type} (e : α → List Nat) (f : β → List Nat) (p : α × β) : List Nat := e p.1 ++ f p.2
abbrev Hdr := Int × Int × Int × Int × Int × Int × Int × ByteArray
def hdE : Hdr → List Nat := pairE encI (pairE encI (pairE encI (pairE encI (pairE encI (pairE encI (pairE encI encS))))))
def matE : Mat → List Nat := pairE encS (pairE encI encS)
def hdOf (d : Nd) : Hdr := (d.kind, d.fn, d.win, d.off, d.k, d.num, d.den, d.name)
/-- an instruction, written -/
def encNd (d : Nd) : List Nat := hdE (hdOf d) ++ (encI d.ms.length ++ (d.ms.flatMap matE ++ (encI d.bys.length ++ d.bys.flatMap encS)))
def encPl (l : List Nd) : List Nat := encI l.length ++ l.flatMap encNd
end
section
open Go.RowKit FracM
/-- Encode -/
def encM (p : List Nd) : List Nat × Int := if (treeM p).2 = 0 then (encPl p, 0) else ([], (treeM p).2)
theorem chk1_len {d : Nd} {n : Nat} (h : chk1 d n = 0) : d.ms.length ≤ 8 ∧ d.bys.length ≤ 8 := by
 unfold chk1 at h
 split at h
 ·cases h
 split at h
 ·cases h
 split at h
 ·cases h
 ·omega
theorem plan_small {p : List Nd} (h : (treeM p).2 = 0) : p.length ≤ 200 ∧ ∀ d ∈ p, d.ms.length ≤ 8 ∧ d.bys.length ≤ 8 := by
 constructor
 ·rcases Nat.lt_or_ge 200 p.length with hb | hb
  ·unfold treeM at h; rw [if_pos hb] at h; cases h
  ·exact hb
 ·intro d hd
  obtain ⟨h1, h2⟩ := tree_back (t := (treeM p).1) (by rw [← h])
  rw [← h1] at hd
  obtain ⟨n, hn⟩ := post_chk1 _ (validE_chk h2) d hd
  exact chk1_len hn
end
section
open Go.RowKit FracM
end
section
open Go.RowKit FracM
end
section
open Go.RowKit FracM
end
section
open Go.RowKit FracM
/-- the words of the parser give those of Valid -/
theorem wordsV_g {w : World} (h : WordsV w) : WordsG w := by
 have g : ∀ (k : Nat) (x : ByteArray), groupsL[k]? = some x → w.cell? ⟨3, k, none⟩ = some (.string x) := fun k x hx => by
  rw [groups_eq, List.getElem?_map] at hx
  cases hy : groupsT[k]? with
  | none => rw [hy] at hx; cases hx
  | some y => rw [hy] at hx; cases hx; exact h.grp.2 k y hy
 refine ⟨⟨fun k hk => ?_, h.grp.1, h.grp.1⟩, g⟩
 match k, hk with
 | 0, _ => exact ⟨_, g 0 _ rfl, by decide +kernel⟩
 | 1, _ => exact ⟨_, g 1 _ rfl, by decide +kernel⟩
 | 2, _ => exact ⟨_, g 2 _ rfl, by decide +kernel⟩
 | 3, _ => exact ⟨_, g 3 _ rfl, by decide +kernel⟩
 | 4, _ => exact ⟨_, g 4 _ rfl, by decide +kernel⟩
end
end Go.Proofs.YtkdojgkiclndfaaGreatDoor
