/- Text of a fraction. -/
import Derived.Test.YtinbfdfgebiaeaaDoorFi
import Derived.Lib.ItoaLen
import Derived.Laws.Concat
set_option linter.unusedVariables false
set_option linter.unusedSimpArgs false
namespace Go.Proofs.YtinbfdfgebiaeaaDoor
open Go.RowKit FracM

/-- what the library's variables hold -/
structure LibW (w : World) : Prop where
  tab : Lib.TabIs Tryd.prog w "internal/strconv.uint64pow10" .u64 Lib.pow10Tab
  syn : ∃ tp p, w.var? Tryd.prog "strconv.ErrSyntax" = some #[.iface tp p]
  rng : ∃ tp p, w.var? Tryd.prog "strconv.ErrRange" = some #[.iface tp p]
  mx : ∃ m, w.cell? ⟨2, 0, none⟩ = some (.int .i64 m)
theorem var_below {n : String} {g : Nat} {w w' : World} {cs : Array Value} (hg : Tryd.prog.globalNamed n = some g) (h : w.var? Tryd.prog n = some cs) (hb : Below w.heap.size w w') : w'.var? Tryd.prog n = some cs := by
  unfold World.var? at h ⊢
  rw [hg] at h ⊢
  simp only [Option.bind_some] at h ⊢
  have hlt : g < w.heap.size := by
    rcases Nat.lt_or_ge g w.heap.size with h' | h'
    · exact h'
    · rw [Array.getElem?_eq_none h'] at h; cases h
  rw [hb.block g hlt]
  exact h
theorem LibW.below {w w' : World} (h : LibW w) (hb : Below w.heap.size w w') : LibW w' := by
  obtain ⟨h1, ⟨t1, p1, h2⟩, ⟨t2, p2, h3⟩, ⟨m, h4⟩⟩ := h
  exact ⟨var_below (g := 5) (by kernel_rfl) h1 hb, ⟨t1, p1, var_below (g := 3) (by kernel_rfl) h2 hb⟩, ⟨t2, p2, var_below (g := 4) (by kernel_rfl) h3 hb⟩, ⟨m, (hb.cell (World.block_lt_of_cell? w _ h4)).trans h4⟩⟩
def itoaB (n : Int) : ByteArray := ⟨(Lib.itoa n).toArray⟩
def slash : ByteArray := ⟨#[47]⟩
def textF (n d : Int) : ByteArray := if validB n d then (if d = 1 then itoaB n else itoaB n ++ (slash ++ itoaB d)) else ⟨#[]⟩
def RetS (s : ByteArray) (w : World) (e : Ending) (w' : World) : Prop := e = .returned (.string s) ∧ Below w.heap.size w w'
theorem bgrow {B : Nat} {w w' : World} (h : Below B w w') (hB : B ≤ w.heap.size) (os : Array Obj) : Below B w (Sort.grow w' os) := by
  refine ⟨h.os, h.tape, h.output, by have := h.size; simp [Sort.grow]; omega, fun k hk => ?_⟩
  rw [← h.block k hk]
  have : k < w'.heap.size := by have := h.size; omega
  simp [Sort.grow, Array.getElem?_append, this]
theorem itoa_any (n : Int) (w : World) (h0 : -9223372036854775808 ≤ n) (h1 : n ≤ 9223372036854775807) (hl : LibW w) : Calls Tryd.prog 21 #[.int .i64 n] w (RetS (itoaB n) w) :=
  (Tryd.strconv_Itoa n h0 h1 w hl.tab).mono fun e w' ⟨he, k, os, hw⟩ => ⟨he, by subst hw; exact bgrow (below_drewN _ _) (Nat.le_refl _) os⟩

theorem sl1 : (⟨#[47]⟩ : ByteArray).size = 1 := rfl
theorem itoa_len (n : Int) (h0 : -9223372036854775808 ≤ n) (h1 : n ≤ 9223372036854775807) : (itoaB n).size ≤ 21 := by
  have := Lib.itoa_length_le n h0 h1
  simpa [itoaB, ByteArray.size] using this
set_option maxHeartbeats 400000 in
theorem text_any (n d : Int) (w : World) (l1 : -9223372036854775808 ≤ n) (u1 : n ≤ 9223372036854775807) (l2 : -9223372036854775808 ≤ d) (u2 : d ≤ 9223372036854775807) (hl : LibW w) :
    Calls Tryd.prog 7 #[.agg #[.int .i64 n, .int .i64 d]] w (RetS (textF n d) w) := by
  have HL := Box.mk hl; clear hl
  by_cases v : validB n d = true
  case neg =>
    replace v : validB n d = false := by simpa using v
    have E : Hid (textF n d = ⟨#[]⟩) := by show textF n d = _; unfold textF; simp [v]
    go_enter Tryd.func7, Tryd.ntmps7
    go_wp2_with fail
    refine (valid_any n d _ (by omega) (by omega) (by omega) (by omega)).mono ?_
    rintro e w1 ⟨rfl, hb1⟩
    rw [v]
    have HB1 : Hid (Below w.heap.size w w1) := bthen (bel1 _ _) hb1 (Nat.le_refl _)
    clear hb1
    go_wp2_with fail
    go_ret
    exact ⟨ret_str (by rw [E.out]), HB1.out⟩
  by_cases d1 : (d == 1) = true
  · have d2 : (d != 1) = false := by simpa using d1
    have E : Hid (textF n d = itoaB n) := by show textF n d = _; unfold textF; rw [if_pos v, if_pos (by simpa using d1)]
    go_enter Tryd.func7, Tryd.ntmps7
    go_wp2_with fail
    refine (valid_any n d _ (by omega) (by omega) (by omega) (by omega)).mono ?_
    rintro e w1 ⟨rfl, hb1⟩
    rw [v]
    have HB1 : Hid (Below w.heap.size w w1 ∧ Blk w1 w.heap.size 24 #[.int .i64 n, .int .i64 d]) := ⟨bthen (bel1 _ _) hb1 (Nat.le_refl _), (Blk.new _ _ _).below hb1⟩
    obtain ⟨p0, p1⟩ := HB1.out.2.c2
    clear hb1
    go_wp2_with fail
    refine (itoa_any n _ (by omega) (by omega) (HL.out.below HB1.out.1)).mono ?_
    rintro e w2 ⟨rfl, hb2⟩
    have HB2 : Hid (Below w.heap.size w w2 ∧ Blk w2 w.heap.size 24 #[.int .i64 n, .int .i64 d]) := ⟨bthen HB1.out.1 hb2 (Nat.le_refl _), HB1.out.2.below hb2⟩
    clear hb2 p0 p1
    obtain ⟨p0, p1⟩ := HB2.out.2.c2
    go_wp2_with fail
    go_ret
    exact ⟨ret_str (by rw [E.out]), HB2.out.1⟩
  · have d2 : (d != 1) = true := by simpa using d1
    have E : Hid (textF n d = itoaB n ++ (slash ++ itoaB d)) := by show textF n d = _; unfold textF; rw [if_pos v, if_neg (by simpa using d1)]
    clear d1
    go_enter Tryd.func7, Tryd.ntmps7
    go_wp2_with fail
    refine (valid_any n d _ (by omega) (by omega) (by omega) (by omega)).mono ?_
    rintro e w1 ⟨rfl, hb1⟩
    rw [v]
    have HB1 : Hid (Below w.heap.size w w1 ∧ Blk w1 w.heap.size 24 #[.int .i64 n, .int .i64 d]) := ⟨bthen (bel1 _ _) hb1 (Nat.le_refl _), (Blk.new _ _ _).below hb1⟩
    obtain ⟨p0, p1⟩ := HB1.out.2.c2
    clear hb1
    go_wp2_with fail
    refine (itoa_any n _ (by omega) (by omega) (HL.out.below HB1.out.1)).mono ?_
    rintro e w2 ⟨rfl, hb2⟩
    have HB2 : Hid (Below w.heap.size w w2 ∧ Blk w2 w.heap.size 24 #[.int .i64 n, .int .i64 d]) := ⟨bthen HB1.out.1 hb2 (Nat.le_refl _), HB1.out.2.below hb2⟩
    clear hb2 p0 p1
    obtain ⟨p0, p1⟩ := HB2.out.2.c2
    go_wp2_with fail
    refine (itoa_any d _ (by omega) (by omega) (HL.out.below HB2.out.1)).mono ?_
    rintro e w3 ⟨rfl, hb3⟩
    have HB3 : Hid (Below w.heap.size w w3) := bthen HB2.out.1 hb3 (Nat.le_refl _)
    clear hb3
    have i1 := itoa_len n (by omega) (by omega)
    have i2 := itoa_len d (by omega) (by omega)
    generalize itoaB n = s1 at *
    generalize itoaB d = s2 at *
    have a1 := fun W => run_string_add_sum (P := Tryd.prog) (w := W) ⟨#[47]⟩ s2 (by rw [sl1]; omega)
    have a2 := fun W => run_string_add_sum (P := Tryd.prog) (w := W) s1 (⟨#[47]⟩ ++ s2) (by rw [ByteArray.size_append, sl1]; omega)
    go_wp2_with fail
    go_ret
    exact ⟨ret_str (by rw [E.out]; rfl), HB3.out⟩
end Go.Proofs.YtinbfdfgebiaeaaDoor
