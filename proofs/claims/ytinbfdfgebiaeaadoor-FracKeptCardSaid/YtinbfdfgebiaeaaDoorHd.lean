/- Rows of bytes; slices.Clone of bytes; Done and Read of package wire. -/
import Derived.Test.YtinbfdfgebiaeaaDoorHc
import Derived.Maps.AppendAt
set_option linter.unusedVariables false
set_option linter.unusedSimpArgs false
namespace Go.Proofs.YtinbfdfgebiaeaaDoor
open Go.RowKit

/-- a row of bytes at an address -/
structure SqB (w : World) (b off : Nat) (l : List Nat) : Prop where
  lt : b < w.heap.size
  at_ : ∀ (k : Nat) (x : Nat), l[k]? = some x → w.cell? ⟨b, off + k, none⟩ = some (.int .u8 (x : Int))
theorem SqB.below {w w' : World} {b off : Nat} {l : List Nat} (h : SqB w b off l) (hb : Below w.heap.size w w') : SqB w' b off l := ⟨Nat.lt_of_lt_of_le h.lt hb.size, fun k x hx => (hb.cell h.lt).trans (h.at_ k x hx)⟩
theorem SqB.keep {w w' : World} {b off : Nat} {l : List Nat} (h : SqB w b off l) (hz : w.heap.size ≤ w'.heap.size) (hb : w'.heap[b]? = w.heap[b]?) : SqB w' b off l := ⟨Nat.lt_of_lt_of_le h.lt hz, fun k x hx => (World.cell?_of_block (a := ⟨b, off + k, none⟩) hb).trans (h.at_ k x hx)⟩
theorem SqB.of_own {w : World} {B : Nat} {v : Value} {l : List Nat} (h : OwnB w B v l) (hl : 0 < l.length) : ∃ g c, v = .slice (some ⟨g, 0, none⟩) l.length c ∧ B ≤ g ∧ SqB w g 0 l := by
  unfold OwnB at h
  rcases h.2 with ⟨_, h0⟩ | ⟨g, cap, cur, rfl, hbg, hg, hnc, hcm, hcs, htake⟩
  · omega
  · refine ⟨g, cap, rfl, hbg, ?_, fun k x hx => ?_⟩
    · rcases Nat.lt_or_ge g w.heap.size with hl | hl
      · exact hl
      · rw [Array.getElem?_eq_none hl] at hg; cases hg
    · have hk : k < l.length := (List.getElem?_eq_some_iff.1 hx).1
      have h1 : (byL l)[k]? = some (.int .u8 (x : Int)) := by unfold byL; rw [List.getElem?_map, hx]; rfl
      rw [← htake, List.getElem?_take, if_pos (by omega)] at h1
      simp only [World.cell?, hg, Nat.zero_add]
      simpa using h1
theorem addr_add (b off j : Nat) : (⟨b, off, none⟩ : Addr).add j = ⟨b, off + j, none⟩ := by
  unfold Addr.add; split
  · next h => subst h; rfl
  · simp
def RetSq (l : List Nat) (w : World) (e : Ending) (w' : World) : Prop := ∃ b off c, e = .returned (.slice (some ⟨b, off, none⟩) l.length c) ∧ w.heap.size ≤ b ∧ SqB w' b off l ∧ Below w.heap.size w w'
set_option maxHeartbeats 1000000 in
set_option maxRecDepth 100000 in
theorem bclone_any (b off n c : Nat) (l : List Nat) (w : World) (hn : n = l.length) (h0 : 0 < n) (h : SqB w b off l) (hm : n ≤ 2000) :
    Calls Tryd.prog 22 #[.slice (some ⟨b, off, none⟩) n c] w (RetSq l w) := by
  obtain ⟨i0, hi, hz0, hz1, hz2⟩ := info_parts byInfo
  have HL := Box.mk hn
  have H0 := Box.mk h0
  have hnil := fun (W : World) (A : Option Addr) (n c n' c' : Nat) => Lib.run_eql_slice_nil (P := Tryd.prog) W 26 5 A n c n' c' Tryd.underlying26
  have hbs : ∀ W : World, (Instr.buildSlice 26 0 #[]).run Tryd.prog W = .ok (.slice (some ⟨W.heap.size, 0, none⟩) 0 0) (W.alloc (.cells #[] 5)) := fun W => by kernel_rfl
  have HO : Box ((w.alloc (.cells #[] 5)).ownsRow w.heap.size 5 1 (.slice (some ⟨w.heap.size, 0, none⟩) 0 0) 0 []) := ⟨World.ownsRow_made w _ 0 (Nat.le_refl _) (by unfold maxLen; omega) (by simp)⟩
  have HC1 : Box ((byL l).length = n * 1) := ⟨by rw [byL_len]; omega⟩
  have HC2 : Box (∀ j u, (byL l)[j]? = some u → (w.alloc (.cells #[] 5)).cell? ((⟨b, off, none⟩ : Addr).add j) = some u) := ⟨fun j u hu => by
    unfold byL at hu
    rw [List.getElem?_map] at hu
    obtain ⟨x, hx, rfl⟩ := Option.map_eq_some_iff.1 hu
    rw [addr_add]
    exact (h.below (bel1 _ _)).at_ j x hx⟩
  clear h hn
  go_enter Tryd.func22, Tryd.ntmps22
  go_wp2_with (at_builtin; refine wpList_append_own_at _ rfl _ _ 26 rfl w.heap.size 5 i0 (.int .u8 0) 1 1 Tryd.underlying26 hi hz0 hz1 hz2 rfl (by decide) (.slice (some ⟨w.heap.size, 0, none⟩) 0 0) 0 [] rfl HO.out ⟨b, off, none⟩ n c (byL l) rfl HC1.out HC2.out (by intro u hu; unfold byL at hu; obtain ⟨x, _, rfl⟩ := List.mem_map.1 hu; rfl) (by simp only [maxLen]; omega) (by omega) (by simp) ?_; intro v' w1 hown1 hg1 hn1 hat1)
  go_ret
  have hO : OwnB w1 w.heap.size v' l := by
    unfold OwnB
    have := hown1
    rw [Nat.zero_add, List.nil_append, HL.out] at this
    exact this
  obtain ⟨g, c', rfl, hbg, hs⟩ := SqB.of_own hO (by rw [← HL.out]; exact H0.out)
  exact ⟨g, 0, c', rfl, hbg, hs, (bel1 _ _).trans (Below.grown (Below.refl _ _) hg1 (by simp) (by simp [Value.ownBlock]))⟩
end Go.Proofs.YtinbfdfgebiaeaaDoor
