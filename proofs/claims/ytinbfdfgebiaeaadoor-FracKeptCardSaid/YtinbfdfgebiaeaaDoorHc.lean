/- The writer of package wire: Int, Text. -/
import Derived.Test.YtinbfdfgebiaeaaDoorHb
import Derived.Lib.AppendStr
set_option linter.unusedVariables false
set_option linter.unusedSimpArgs false
namespace Go.Proofs.YtinbfdfgebiaeaaDoor
open Go.RowKit

set_option maxHeartbeats 1000000 in
theorem wint_any (g B : Nat) (n : Int) (l : List Nat) (v : Value) (w : World) (h : WS g B w w v l) (n1 : -9223372036854775808 ≤ n) (n2 : n ≤ 9223372036854775807) (hl : l.length ≤ 2000) :
    Calls Tryd.prog 5 #[.pointer (some ⟨g, 0, none⟩), .int .i64 n] w (RetWr g B w (l ++ uv (zig n))) := by
  have H0 := Box.mk h
  have hz := Box.mk (zig_lt n1 n2)
  have e1 : bits .xor .u64 (IntKind.u64.wrap (IntKind.u64.wrap n * 2)) (IntKind.u64.wrap (n / 9223372036854775808)) = (zig n : Nat) := by
    rw [IntKind.wrap_u64, IntKind.wrap_u64, IntKind.wrap_u64, ← zig_eq n1 n2]
    congr 1; omega
  clear h n1 n2
  go_enter Tryd.func5, Tryd.ntmps5
  go_wp2_with fail
  refine (wuint_any g B (zig n) l v _ H0.out hz.out hl).mono ?_
  rintro e w1 ⟨rfl, hw⟩
  go_wp2_with fail
  go_end0
  exact ⟨rfl, hw⟩
/-- the bytes of a string -/
def strB (s : ByteArray) : List Nat := s.data.toList.map fun b => b.toNat
theorem strB_len (s : ByteArray) : (strB s).length = s.size := by unfold strB; rw [List.length_map]; show _ = s.data.size; simp
theorem strB_byte (s : ByteArray) : ∀ x ∈ strB s, x < 256 := by
  intro x hx; unfold strB at hx; obtain ⟨b, _, rfl⟩ := List.mem_map.1 hx; exact b.toNat_lt
theorem OwnB.of_str {w : World} {B : Nat} {v : Value} {l1 : List Nat} {s : ByteArray} (h : w.ownsRow B 5 1 v (l1.length + s.size) (byL l1 ++ Lib.strCells s)) : OwnB w B v (l1 ++ strB s) := by
  unfold OwnB
  have e : byL (l1 ++ strB s) = byL l1 ++ Lib.strCells s := by
    unfold byL strB Lib.strCells
    rw [List.map_append, List.map_map]
    rfl
  rw [e, List.length_append, strB_len]
  exact h
set_option maxHeartbeats 1000000 in
theorem wtext_any (g B : Nat) (s : ByteArray) (l : List Nat) (v : Value) (w : World) (h : WS g B w w v l) (hs : 0 < s.size ∧ s.size ≤ 999) (hl : l.length ≤ 1000) :
    Calls Tryd.prog 6 #[.pointer (some ⟨g, 0, none⟩), .string s] w (RetWr g B w (l ++ uv s.size ++ strB s)) := by
  have H0 := Box.mk h
  have hss : s.size ≤ 999 := hs.2
  have hl1 : (l ++ uv s.size).length ≤ 1010 := by have := uv_len10 (n := s.size) (by omega); simp; omega
  obtain ⟨l1, HL⟩ : ∃ l1, Box (l ++ uv s.size = l1) := ⟨_, ⟨rfl⟩⟩
  rw [HL.out] at hl1 ⊢
  have e1 : IntKind.u64.wrap (s.size : Int) = (s.size : Int) := by rw [IntKind.wrap_u64]; omega
  obtain ⟨j0, hj, hy0, hy1, hy2⟩ := info_parts byInfo
  have HJ := Box.mk (And.intro hj (And.intro hy0 (And.intro hy1 hy2)))
  clear h hs hj hy0 hy1 hy2
  go_enter Tryd.func6, Tryd.ntmps6
  go_wp2_with fail
  refine (wuint_any g B s.size l v _ H0.out (by omega) (by omega)).mono ?_
  rintro e w1 ⟨rfl, v1, hw⟩
  rw [HL.out] at hw
  obtain ⟨A', c', hv'⟩ := own_form hw.own
  subst hv'
  have HW := Box.mk hw
  have g0 := HW.out.G.c1
  have gf := HW.out.G.frozen
  have hzB := Nat.le_trans hw.hB hw.fw.size
  have hgB := hw.gB
  clear hw H0
  go_wp2_with (at_builtin; refine Lib.wpList_append_own_string _ rfl _ _ 26 9 rfl B 5 j0 Tryd.underlying26 Tryd.underlying9 HJ.out.1 HJ.out.2.1 HJ.out.2.2.1 HJ.out.2.2.2 (.slice A' l1.length c') l1.length (byL l1) rfl HW.out.own s rfl (by unfold maxLen; omega) (by omega) hzB ?_; intro v6 w6 hown6 hg6 hnil6; obtain ⟨A8, c8, hv6⟩ := own_form hown6; subst hv6; have HB6 : Box (Below B w1 w6) := Box.mk (grow_lt HW.out.own hg6 hzB); have HG6 := Box.mk ((HB6.out.block g hgB).trans HW.out.G); have g6 := Blk.c1 (b := g) HG6.out; have gf6 := Blk.frozen (g := g) HG6.out; have HO6 : Box (OwnB w6 B (.slice A8 (l1.length + s.size) c8) (l1 ++ strB s)) := Box.mk (OwnB.of_str hown6); clear hown6 hg6 hnil6 HG6)
  go_end0
  exact ⟨rfl, _, HW.out.grown HB6.out HO6.out⟩
end Go.Proofs.YtinbfdfgebiaeaaDoor
