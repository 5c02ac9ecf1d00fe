/- Contracts, packed: Jc. -/
import Derived.Test.YtkdojgkiclndfaaGreatDoorPx21
import Derived.Test.YtkdojgkiclndfaaGreatDoorPx23
import Derived.Laws.Concat
import Derived.Lib.ItoaMem
set_option linter.unusedVariables false
set_option linter.unusedSimpArgs false
namespace Go.Proofs.YtkdojgkiclndfaaGreatDoor
section
open Go.RowKit FracM
/-- the variables that parser and printer read -/
structure LibP (w : World) : Prop where
 grp : WordsAt w 3 groupsT
 fn : WordsAt w 2 funcsT
 mat : WordsAt w 1 matchT
 opr : WordsAt w 0 opersT
 tab : Lib.TabIs Tryz.prog w "internal/strconv.uint64pow10" .u64 Lib.pow10Tab
theorem tab_below {n : String} {g : Nat} {w w' : World} {cs : Array Value} (hg : Tryz.prog.globalNamed n = some g) (h : w.var? Tryz.prog n = some cs) (hb : Below w.heap.size w w') : w'.var? Tryz.prog n = some cs := by
 unfold World.var? at h ⊢
 rw [hg] at h ⊢
 simp only [Option.bind_some] at h ⊢
 have hlt : g < w.heap.size := by
  rcases Nat.lt_or_ge g w.heap.size with h' | h'
  ·exact h'
  ·rw [Array.getElem?_eq_none h'] at h; cases h
 rw [hb.block g hlt]
 exact h
theorem LibP.below {w w' : World} (h : LibP w) (hb : Below w.heap.size w w') : LibP w' :=
 ⟨h.grp.below hb, h.fn.below hb, h.mat.below hb, h.opr.below hb, tab_below (g := 4) (by kernel_rfl) h.tab hb⟩
/-- .. whatever turns from block q on -/
def LibQ (q : Nat) (w : World) : Prop := ∀ w', Below q w w' → LibP w'
theorem LibQ.here {q : Nat} {w : World} (h : LibQ q w) : LibP w := h w (Below.refl _ _)
theorem LibQ.keep {q B : Nat} {w w' : World} (h : LibQ q w) (hb : Below B w w') (hq : q ≤ B) : LibQ q w' := fun w2 h2 => h w2 ((hb.mono hq).trans h2)
theorem LibP.q {w : World} (h : LibP w) : LibQ w.heap.size w := fun _ hb => h.below hb
theorem pgrow {B : Nat} {w w' : World} (h : Below B w w') (hB : B ≤ w.heap.size) (os : Array Obj) : Below B w (Sort.grow w' os) := by
 refine ⟨h.os, h.tape, h.output, by have := h.size; simp [Sort.grow]; omega, fun k hk => ?_⟩
 rw [← h.block k hk]
 have : k < w'.heap.size := by have := h.size; omega
 simp [Sort.grow, Array.getElem?_append, this]
theorem pitoa_any (n : Int) (w : World) (h0 : -9223372036854775808 ≤ n) (h1 : n ≤ 9223372036854775807) (hl : LibP w) : Calls Tryz.prog 100 #[.int .i64 n] w (RetB (.string (bsL (Lib.itoa n))) w) :=
 (Tryz.strconv_Itoa n h0 h1 w hl.tab).mono fun e w' ⟨he, k, os, hw⟩ => ⟨he, by subst hw; exact pgrow (below_drewN _ _) (Nat.le_refl _) os⟩
theorem bsL_sz (l : List UInt8) : (bsL l).size = l.length := by simp [bsL, ByteArray.size]
theorem bsL_lst (l : List UInt8) : (bsL l).data.toList = l := by simp [bsL]
theorem itoa_sz (n : Int) (h0 : -9223372036854775808 ≤ n) (h1 : n ≤ 9223372036854775807) : (Lib.itoa n).length ≤ 21 := Lib.itoa_length_le n h0 h1
/-- a writer under way: the builder, what is kept, the variables, the parameter's box -/
structure Wp (b g : Nat) (t : TypeId) (cs : Array Value) (w W : World) (l : List UInt8) : Prop where
 bd : Bd W b l
 kp : Kp b w W
 lib : LibQ b W
 box : Blk W g t cs
 gb : b < g
 tn : t ≠ uT
 sz : b < w.heap.size
theorem Wp.start {b : Nat} {t : TypeId} {cs : Array Value} {w : World} {l : List UInt8} (h : Bd w b l) (hl : LibQ b w) (ht : t ≠ uT) : Wp b w.heap.size t cs w (w.alloc (.cells cs t)) l :=
 ⟨h.alloc _, (Kp.refl b w).alloc (Nat.le_of_lt h.lt) _, hl.keep (bel1 _ _) (Nat.le_of_lt h.lt), Blk.new _ _ _, h.lt, ht, h.lt⟩
theorem Wp.below {b g : Nat} {t : TypeId} {cs : Array Value} {w W W' : World} {l : List UInt8} (h : Wp b g t cs w W l) (hb : Below W.heap.size W W') : Wp b g t cs w W' l :=
 ⟨h.bd.below hb, h.kp.trans (Kp.of_below hb (Nat.le_of_lt h.bd.lt)), h.lib.keep hb (Nat.le_of_lt h.bd.lt), h.box.below hb, h.gb, h.tn, h.sz⟩
theorem Wp.wrote {b g : Nat} {t : TypeId} {cs : Array Value} {w W W' : World} {l l' : List UInt8} (h : Wp b g t cs w W l) (hd : Bd W' b l') (hk : Kp b W W') : Wp b g t cs w W' l' :=
 ⟨hd, h.kp.trans hk, h.lib.keep hk.below (Nat.le_refl _), hk.blk h.box (by have := h.gb; omega) h.tn, h.gb, h.tn, h.sz⟩
theorem Wp.set {b g : Nat} {t : TypeId} {cs : Array Value} {w W : World} {l : List UInt8} (h : Wp b g t cs w W l) (hg : w.heap.size ≤ g) (i : Nat) (u : Value) : Wp b g t (cs.setIfInBounds i u) w (W.setCell ⟨g, i, none⟩ u) l := by
 have hb : Below b W (W.setCell ⟨g, i, none⟩ u) := (Below.refl b W).setCell (p := ⟨g, i, none⟩) (by have := h.gb; simp only; omega) _
 have hw : Below w.heap.size w (W.setCell ⟨g, i, none⟩ u) ∨ True := .inr trivial
 refine ⟨h.bd.set h.box h.tn (by have := h.gb; omega) u, ⟨h.kp.below.trans hb, fun k o hk hn ho => ?_⟩, h.lib.keep hb (Nat.le_refl _), h.box.set i u, h.gb, h.tn, h.sz⟩
 have hlt : k < w.heap.size := (Array.getElem?_eq_some_iff.1 hk).1
 exact (Below.heap_setCell _ _ _ _ (by simp only; omega)).trans (h.kp.kept k o hk hn ho)
theorem Wp.fin {b g : Nat} {t : TypeId} {cs : Array Value} {w W : World} {l : List UInt8} {v : Value} (h : Wp b g t cs w W l) : RetBd b l v w (.returned v) W := ⟨rfl, h.bd, h.kp⟩
abbrev nF (n d : Int) : Array Value := #[.int .i64 n, .int .i64 d]
abbrev frT : TypeId := 28
set_option maxHeartbeats 1000000 in
theorem pnatural_any (n d : Int) (w : World) : Calls Tryz.prog 99 #[.agg #[.int .i64 n, .int .i64 d]] w (RetB (.bool (natE n d)) w) := by
 have h : natE n d = true ∨ natE n d = false := by cases natE n d <;> simp
 by_cases h1 : (d == 1) = true
 ·by_cases h2 : decide (0 ≤ n) = true
  ·have E : Box (natE n d = decide (n ≤ 1073741824)) := ⟨by unfold natE; rw [h1, h2]; simp⟩
   clear h
   go_enter Tryz.func99, Tryz.ntmps99
   go_wp2_with fail
   go_ret
   exact ⟨ret_bool (by rw [E.out]), bel1 _ _⟩
  ·replace h2 : decide (0 ≤ n) = false := by simpa using h2
   have E : Box (natE n d = false) := ⟨by unfold natE; rw [h1, h2]; simp⟩
   clear h
   go_enter Tryz.func99, Tryz.ntmps99
   go_wp2_with fail
   go_ret
   exact ⟨ret_bool (by rw [E.out]), bel1 _ _⟩
 ·replace h1 : (d == 1) = false := by simpa using h1
  have E : Box (natE n d = false) := ⟨by unfold natE; rw [h1]; simp⟩
  clear h
  go_enter Tryz.func99, Tryz.ntmps99
  go_wp2_with fail
  go_ret
  exact ⟨ret_bool (by rw [E.out]), bel1 _ _⟩
set_option maxHeartbeats 2000000 in
set_option maxRecDepth 100000 in
theorem pnum_any (b : Nat) (l : List UInt8) (n d : Int) (w : World) (h : Bd w b l) (hl : LibQ b w) (hw : writB n d = true) (hd0 : 0 ≤ d) (hlen : l.length + (numL n d).length ≤ 1000000000) :
  Calls Tryz.prog 65 #[.pointer (some ⟨b, 0, none⟩), .agg #[.int .i64 n, .int .i64 d]] w (RetBd b (l ++ numL n d) (.tuple #[]) w) := by
 have hbd : (-1073741824 ≤ n ∧ n ≤ 1073741824) ∧ d ≤ 1073741824 := by simpa [writB] using hw
 obtain ⟨⟨n1, n2⟩, d1⟩ := hbd
 have S0 : Box (Wp b w.heap.size frT (nF n d) w (w.alloc (.cells (nF n d) frT)) l) := ⟨Wp.start h hl (by decide)⟩
 have HLEN := Box.mk hlen
 clear h hl hw hlen
 have i1 := itoa_sz (absI n) (by unfold absI; split <;> omega) (by unfold absI; split <;> omega)
 have i2 := itoa_sz d (by omega) (by omega)
 by_cases hnat : natE n d = true
 ·have E : Box (numL n d = Lib.itoa n) := ⟨by unfold numL; rw [if_pos hnat]⟩
  have HI : Box (l.length + (Lib.itoa n).length ≤ 1000000000) := ⟨by rw [← E.out]; exact HLEN.out⟩
  have l0 := Box.mk HLEN.out
  go_enter Tryz.func65, Tryz.ntmps65
  go_upto_region 1 with (fail)
  show Code.wp _ _ _ _ (w.alloc (.cells (nF n d) frT))
  generalize w.alloc (.cells (nF n d) frT) = w0 at S0 ⊢
  obtain ⟨p0, p1⟩ := S0.out.box.c2
  go_wp2_with fail
  refine (pnatural_any n d _).mono ?_
  rintro e w1 ⟨rfl, hb⟩
  have S1 : Box (Wp b w.heap.size frT (nF n d) w w1 (l)) := ⟨S0.out.below hb⟩
  clear hb p0 p1
  obtain ⟨p0, p1⟩ := S1.out.box.c2
  rw [hnat]
  go_wp2_with fail
  refine (pitoa_any n _ (by omega) (by omega) S1.out.lib.here).mono ?_
  rintro e w2 ⟨rfl, hb⟩
  have S2 : Box (Wp b w.heap.size frT (nF n d) w w2 (l)) := ⟨S1.out.below hb⟩
  clear hb p0 p1
  obtain ⟨p0, p1⟩ := S2.out.box.c2
  go_wp2_with fail
  refine (bstr_any b l (bsL (Lib.itoa n)) _ S2.out.bd (by rw [bsL_sz]; have := HI.out; omega)).mono ?_
  rintro e w3 ⟨rfl, hd, hk⟩
  rw [bsL_lst] at hd
  have S3 : Box (Wp b w.heap.size frT (nF n d) w w3 (l ++ Lib.itoa n)) := ⟨S2.out.wrote hd hk⟩
  clear hd hk p0 p1
  go_wp2_with fail
  go_end0
  rw [E.out]
  exact S3.out.fin
 replace hnat : natE n d = false := by simpa using hnat
 have caseN1 : n < 0 → d = 1 → Calls Tryz.prog 65 #[.pointer (some ⟨b, 0, none⟩), .agg #[.int .i64 n, .int .i64 d]] w (RetBd b (l ++ numL n d) (.tuple #[]) w) := by
  intro hn hd1
  have EA : Box (absI n = (-n)) := ⟨by unfold absI; simp [hn]⟩
  have E : Box ((((l ++ [40]) ++ [48, 45]) ++ Lib.itoa (-n)) ++ [41] = l ++ numL n d) := ⟨by unfold numL numB; rw [hnat, EA.out]; simp [hn, hd1]⟩
  have HI : Box (((((l ++ [40]) ++ [48, 45]) ++ Lib.itoa (-n)) ++ [41]).length ≤ 1000000000) := ⟨by rw [E.out, List.length_append]; exact HLEN.out⟩
  rw [EA.out] at i1
  have HN : Box (n < 0) := ⟨hn⟩
  have t1 : (d == 1) = true := by simpa using hd1
  have t2 : (d != 1) = false := by simpa using hd1
  clear hd1
  have l0 := Box.mk HLEN.out
  go_enter Tryz.func65, Tryz.ntmps65
  go_upto_region 1 with (fail)
  show Code.wp _ _ _ _ (w.alloc (.cells (nF n d) frT))
  generalize w.alloc (.cells (nF n d) frT) = w0 at S0 ⊢
  obtain ⟨p0, p1⟩ := S0.out.box.c2
  go_wp2_with fail
  refine (pnatural_any n d _).mono ?_
  rintro e w1 ⟨rfl, hb⟩
  have S1 : Box (Wp b w.heap.size frT (nF n d) w w1 (l)) := ⟨S0.out.below hb⟩
  clear hb p0 p1
  obtain ⟨p0, p1⟩ := S1.out.box.c2
  rw [hnat]
  go_wp2_with fail
  refine (bbyte_any b l 40 40 _ S1.out.bd rfl (by have := HI.out; simp only [List.length_append, List.length_cons, List.length_nil, bsL_sz] at this ⊢; omega)).mono ?_
  rintro e w2 ⟨rfl, hd, hk⟩
  have S2 : Box (Wp b w.heap.size frT (nF n d) w w2 (l ++ [40])) := ⟨S1.out.wrote hd hk⟩
  clear hd hk p0 p1
  obtain ⟨p0, p1⟩ := S2.out.box.c2
  have pf := S2.out.box.frozen
  go_wp2_with fail
  refine (bstr_any b _ (bsL [48, 45]) _ S2.out.bd (by have := HI.out; simp only [List.length_append, List.length_cons, List.length_nil, bsL_sz] at this ⊢; omega)).mono ?_
  rintro e w3 ⟨rfl, hd, hk⟩
  rw [bsL_lst] at hd
  have S3 : Box (Wp b w.heap.size frT (nF n d) w w3 ((l ++ [40]) ++ [48, 45])) := ⟨S2.out.wrote hd hk⟩
  clear hd hk p0 p1 pf
  obtain ⟨p0, p1⟩ := S3.out.box.c2
  have pf := S3.out.box.frozen
  have hneg : IntKind.i64.wrap (-n) = -n := IntWalk.i64_in (-n) (by omega)
  have S4 : Box (Wp b w.heap.size frT (nF (-n) d) w (w3.setCell ⟨w.heap.size, 0, none⟩ (.int .i64 (-n))) ((l ++ [40]) ++ [48, 45])) := ⟨by simpa using S3.out.set (Nat.le_refl _) 0 (.int .i64 (-n))⟩
  go_upto_region 7 with (fail)
  clear p0 p1 pf
  show Code.wp _ _ _ _ (w3.setCell ⟨w.heap.size, 0, none⟩ (.int .i64 (-n)))
  generalize w3.setCell ⟨w.heap.size, 0, none⟩ (.int .i64 (-n)) = w4 at S4 ⊢
  obtain ⟨p0, p1⟩ := S4.out.box.c2
  go_wp2_with fail
  refine (pitoa_any (-n) _ (by omega) (by omega) S4.out.lib.here).mono ?_
  rintro e w5 ⟨rfl, hb⟩
  have S5 : Box (Wp b w.heap.size frT (nF (-n) d) w w5 ((l ++ [40]) ++ [48, 45])) := ⟨S4.out.below hb⟩
  clear hb p0 p1
  obtain ⟨p0, p1⟩ := S5.out.box.c2
  go_wp2_with fail
  refine (bstr_any b _ (bsL (Lib.itoa (-n))) _ S5.out.bd (by have := HI.out; simp only [List.length_append, List.length_cons, List.length_nil, bsL_sz] at this ⊢; omega)).mono ?_
  rintro e w6 ⟨rfl, hd, hk⟩
  rw [bsL_lst] at hd
  have S6 : Box (Wp b w.heap.size frT (nF (-n) d) w w6 (((l ++ [40]) ++ [48, 45]) ++ Lib.itoa (-n))) := ⟨S5.out.wrote hd hk⟩
  clear hd hk p0 p1
  obtain ⟨p0, p1⟩ := S6.out.box.c2
  go_wp2_with fail
  refine (bbyte_any b _ 41 41 _ S6.out.bd rfl (by have := HI.out; simp only [List.length_append, List.length_cons, List.length_nil, bsL_sz] at this ⊢; omega)).mono ?_
  rintro e w7 ⟨rfl, hd, hk⟩
  have S7 : Box (Wp b w.heap.size frT (nF (-n) d) w w7 ((((l ++ [40]) ++ [48, 45]) ++ Lib.itoa (-n)) ++ [41])) := ⟨S6.out.wrote hd hk⟩
  clear hd hk p0 p1
  obtain ⟨p0, p1⟩ := S7.out.box.c2
  go_wp2_with fail
  go_end0
  rw [← E.out]
  exact S7.out.fin
 have caseND : n < 0 → ¬ d = 1 → Calls Tryz.prog 65 #[.pointer (some ⟨b, 0, none⟩), .agg #[.int .i64 n, .int .i64 d]] w (RetBd b (l ++ numL n d) (.tuple #[]) w) := by
  intro hn hd1
  have EA : Box (absI n = (-n)) := ⟨by unfold absI; simp [hn]⟩
  have E : Box ((((((l ++ [40]) ++ [48, 45]) ++ Lib.itoa (-n)) ++ [47]) ++ Lib.itoa d) ++ [41] = l ++ numL n d) := ⟨by unfold numL numB; rw [hnat, EA.out]; simp [hn, hd1]⟩
  have HI : Box (((((((l ++ [40]) ++ [48, 45]) ++ Lib.itoa (-n)) ++ [47]) ++ Lib.itoa d) ++ [41]).length ≤ 1000000000) := ⟨by rw [E.out, List.length_append]; exact HLEN.out⟩
  rw [EA.out] at i1
  have HN : Box (n < 0) := ⟨hn⟩
  have t1 : (d == 1) = false := by simpa using hd1
  have t2 : (d != 1) = true := by simpa using hd1
  clear hd1
  have l0 := Box.mk HLEN.out
  go_enter Tryz.func65, Tryz.ntmps65
  go_upto_region 1 with (fail)
  show Code.wp _ _ _ _ (w.alloc (.cells (nF n d) frT))
  generalize w.alloc (.cells (nF n d) frT) = w0 at S0 ⊢
  obtain ⟨p0, p1⟩ := S0.out.box.c2
  go_wp2_with fail
  refine (pnatural_any n d _).mono ?_
  rintro e w1 ⟨rfl, hb⟩
  have S1 : Box (Wp b w.heap.size frT (nF n d) w w1 (l)) := ⟨S0.out.below hb⟩
  clear hb p0 p1
  obtain ⟨p0, p1⟩ := S1.out.box.c2
  rw [hnat]
  go_wp2_with fail
  refine (bbyte_any b l 40 40 _ S1.out.bd rfl (by have := HI.out; simp only [List.length_append, List.length_cons, List.length_nil, bsL_sz] at this ⊢; omega)).mono ?_
  rintro e w2 ⟨rfl, hd, hk⟩
  have S2 : Box (Wp b w.heap.size frT (nF n d) w w2 (l ++ [40])) := ⟨S1.out.wrote hd hk⟩
  clear hd hk p0 p1
  obtain ⟨p0, p1⟩ := S2.out.box.c2
  have pf := S2.out.box.frozen
  go_wp2_with fail
  refine (bstr_any b _ (bsL [48, 45]) _ S2.out.bd (by have := HI.out; simp only [List.length_append, List.length_cons, List.length_nil, bsL_sz] at this ⊢; omega)).mono ?_
  rintro e w3 ⟨rfl, hd, hk⟩
  rw [bsL_lst] at hd
  have S3 : Box (Wp b w.heap.size frT (nF n d) w w3 ((l ++ [40]) ++ [48, 45])) := ⟨S2.out.wrote hd hk⟩
  clear hd hk p0 p1 pf
  obtain ⟨p0, p1⟩ := S3.out.box.c2
  have pf := S3.out.box.frozen
  have hneg : IntKind.i64.wrap (-n) = -n := IntWalk.i64_in (-n) (by omega)
  have S4 : Box (Wp b w.heap.size frT (nF (-n) d) w (w3.setCell ⟨w.heap.size, 0, none⟩ (.int .i64 (-n))) ((l ++ [40]) ++ [48, 45])) := ⟨by simpa using S3.out.set (Nat.le_refl _) 0 (.int .i64 (-n))⟩
  go_upto_region 7 with (fail)
  clear p0 p1 pf
  show Code.wp _ _ _ _ (w3.setCell ⟨w.heap.size, 0, none⟩ (.int .i64 (-n)))
  generalize w3.setCell ⟨w.heap.size, 0, none⟩ (.int .i64 (-n)) = w4 at S4 ⊢
  obtain ⟨p0, p1⟩ := S4.out.box.c2
  go_wp2_with fail
  refine (pitoa_any (-n) _ (by omega) (by omega) S4.out.lib.here).mono ?_
  rintro e w5 ⟨rfl, hb⟩
  have S5 : Box (Wp b w.heap.size frT (nF (-n) d) w w5 ((l ++ [40]) ++ [48, 45])) := ⟨S4.out.below hb⟩
  clear hb p0 p1
  obtain ⟨p0, p1⟩ := S5.out.box.c2
  go_wp2_with fail
  refine (bstr_any b _ (bsL (Lib.itoa (-n))) _ S5.out.bd (by have := HI.out; simp only [List.length_append, List.length_cons, List.length_nil, bsL_sz] at this ⊢; omega)).mono ?_
  rintro e w6 ⟨rfl, hd, hk⟩
  rw [bsL_lst] at hd
  have S6 : Box (Wp b w.heap.size frT (nF (-n) d) w w6 (((l ++ [40]) ++ [48, 45]) ++ Lib.itoa (-n))) := ⟨S5.out.wrote hd hk⟩
  clear hd hk p0 p1
  obtain ⟨p0, p1⟩ := S6.out.box.c2
  go_wp2_with fail
  refine (bbyte_any b _ 47 47 _ S6.out.bd rfl (by have := HI.out; simp only [List.length_append, List.length_cons, List.length_nil, bsL_sz] at this ⊢; omega)).mono ?_
  rintro e w7 ⟨rfl, hd, hk⟩
  have S7 : Box (Wp b w.heap.size frT (nF (-n) d) w w7 ((((l ++ [40]) ++ [48, 45]) ++ Lib.itoa (-n)) ++ [47])) := ⟨S6.out.wrote hd hk⟩
  clear hd hk p0 p1
  obtain ⟨p0, p1⟩ := S7.out.box.c2
  go_wp2_with fail
  refine (pitoa_any d _ (by omega) (by omega) S7.out.lib.here).mono ?_
  rintro e w8 ⟨rfl, hb⟩
  have S8 : Box (Wp b w.heap.size frT (nF (-n) d) w w8 ((((l ++ [40]) ++ [48, 45]) ++ Lib.itoa (-n)) ++ [47])) := ⟨S7.out.below hb⟩
  clear hb p0 p1
  obtain ⟨p0, p1⟩ := S8.out.box.c2
  go_wp2_with fail
  refine (bstr_any b _ (bsL (Lib.itoa d)) _ S8.out.bd (by have := HI.out; simp only [List.length_append, List.length_cons, List.length_nil, bsL_sz] at this ⊢; omega)).mono ?_
  rintro e w9 ⟨rfl, hd, hk⟩
  rw [bsL_lst] at hd
  have S9 : Box (Wp b w.heap.size frT (nF (-n) d) w w9 (((((l ++ [40]) ++ [48, 45]) ++ Lib.itoa (-n)) ++ [47]) ++ Lib.itoa d)) := ⟨S8.out.wrote hd hk⟩
  clear hd hk p0 p1
  obtain ⟨p0, p1⟩ := S9.out.box.c2
  go_wp2_with fail
  refine (bbyte_any b _ 41 41 _ S9.out.bd rfl (by have := HI.out; simp only [List.length_append, List.length_cons, List.length_nil, bsL_sz] at this ⊢; omega)).mono ?_
  rintro e w10 ⟨rfl, hd, hk⟩
  have S10 : Box (Wp b w.heap.size frT (nF (-n) d) w w10 ((((((l ++ [40]) ++ [48, 45]) ++ Lib.itoa (-n)) ++ [47]) ++ Lib.itoa d) ++ [41])) := ⟨S9.out.wrote hd hk⟩
  clear hd hk p0 p1
  obtain ⟨p0, p1⟩ := S10.out.box.c2
  go_wp2_with fail
  go_end0
  rw [← E.out]
  exact S10.out.fin
 have caseP1 : ¬ n < 0 → d = 1 → Calls Tryz.prog 65 #[.pointer (some ⟨b, 0, none⟩), .agg #[.int .i64 n, .int .i64 d]] w (RetBd b (l ++ numL n d) (.tuple #[]) w) := by
  intro hn hd1
  have EA : Box (absI n = n) := ⟨by unfold absI; simp [hn]⟩
  have E : Box (((l ++ [40]) ++ Lib.itoa n) ++ [41] = l ++ numL n d) := ⟨by unfold numL numB; rw [hnat, EA.out]; simp [hn, hd1]⟩
  have HI : Box ((((l ++ [40]) ++ Lib.itoa n) ++ [41]).length ≤ 1000000000) := ⟨by rw [E.out, List.length_append]; exact HLEN.out⟩
  rw [EA.out] at i1
  have HN : Box (¬ n < 0) := ⟨hn⟩
  have t1 : (d == 1) = true := by simpa using hd1
  have t2 : (d != 1) = false := by simpa using hd1
  clear hd1
  have l0 := Box.mk HLEN.out
  go_enter Tryz.func65, Tryz.ntmps65
  go_upto_region 1 with (fail)
  show Code.wp _ _ _ _ (w.alloc (.cells (nF n d) frT))
  generalize w.alloc (.cells (nF n d) frT) = w0 at S0 ⊢
  obtain ⟨p0, p1⟩ := S0.out.box.c2
  go_wp2_with fail
  refine (pnatural_any n d _).mono ?_
  rintro e w1 ⟨rfl, hb⟩
  have S1 : Box (Wp b w.heap.size frT (nF n d) w w1 (l)) := ⟨S0.out.below hb⟩
  clear hb p0 p1
  obtain ⟨p0, p1⟩ := S1.out.box.c2
  rw [hnat]
  go_wp2_with fail
  refine (bbyte_any b l 40 40 _ S1.out.bd rfl (by have := HI.out; simp only [List.length_append, List.length_cons, List.length_nil, bsL_sz] at this ⊢; omega)).mono ?_
  rintro e w2 ⟨rfl, hd, hk⟩
  have S2 : Box (Wp b w.heap.size frT (nF n d) w w2 (l ++ [40])) := ⟨S1.out.wrote hd hk⟩
  clear hd hk p0 p1
  obtain ⟨p0, p1⟩ := S2.out.box.c2
  go_wp2_with fail
  refine (pitoa_any n _ (by omega) (by omega) S2.out.lib.here).mono ?_
  rintro e w3 ⟨rfl, hb⟩
  have S3 : Box (Wp b w.heap.size frT (nF n d) w w3 (l ++ [40])) := ⟨S2.out.below hb⟩
  clear hb p0 p1
  obtain ⟨p0, p1⟩ := S3.out.box.c2
  go_wp2_with fail
  refine (bstr_any b _ (bsL (Lib.itoa n)) _ S3.out.bd (by have := HI.out; simp only [List.length_append, List.length_cons, List.length_nil, bsL_sz] at this ⊢; omega)).mono ?_
  rintro e w4 ⟨rfl, hd, hk⟩
  rw [bsL_lst] at hd
  have S4 : Box (Wp b w.heap.size frT (nF n d) w w4 ((l ++ [40]) ++ Lib.itoa n)) := ⟨S3.out.wrote hd hk⟩
  clear hd hk p0 p1
  obtain ⟨p0, p1⟩ := S4.out.box.c2
  go_wp2_with fail
  refine (bbyte_any b _ 41 41 _ S4.out.bd rfl (by have := HI.out; simp only [List.length_append, List.length_cons, List.length_nil, bsL_sz] at this ⊢; omega)).mono ?_
  rintro e w5 ⟨rfl, hd, hk⟩
  have S5 : Box (Wp b w.heap.size frT (nF n d) w w5 (((l ++ [40]) ++ Lib.itoa n) ++ [41])) := ⟨S4.out.wrote hd hk⟩
  clear hd hk p0 p1
  obtain ⟨p0, p1⟩ := S5.out.box.c2
  go_wp2_with fail
  go_end0
  rw [← E.out]
  exact S5.out.fin
 have casePD : ¬ n < 0 → ¬ d = 1 → Calls Tryz.prog 65 #[.pointer (some ⟨b, 0, none⟩), .agg #[.int .i64 n, .int .i64 d]] w (RetBd b (l ++ numL n d) (.tuple #[]) w) := by
  intro hn hd1
  have EA : Box (absI n = n) := ⟨by unfold absI; simp [hn]⟩
  have E : Box (((((l ++ [40]) ++ Lib.itoa n) ++ [47]) ++ Lib.itoa d) ++ [41] = l ++ numL n d) := ⟨by unfold numL numB; rw [hnat, EA.out]; simp [hn, hd1]⟩
  have HI : Box ((((((l ++ [40]) ++ Lib.itoa n) ++ [47]) ++ Lib.itoa d) ++ [41]).length ≤ 1000000000) := ⟨by rw [E.out, List.length_append]; exact HLEN.out⟩
  rw [EA.out] at i1
  have HN : Box (¬ n < 0) := ⟨hn⟩
  have t1 : (d == 1) = false := by simpa using hd1
  have t2 : (d != 1) = true := by simpa using hd1
  clear hd1
  have l0 := Box.mk HLEN.out
  go_enter Tryz.func65, Tryz.ntmps65
  go_upto_region 1 with (fail)
  show Code.wp _ _ _ _ (w.alloc (.cells (nF n d) frT))
  generalize w.alloc (.cells (nF n d) frT) = w0 at S0 ⊢
  obtain ⟨p0, p1⟩ := S0.out.box.c2
  go_wp2_with fail
  refine (pnatural_any n d _).mono ?_
  rintro e w1 ⟨rfl, hb⟩
  have S1 : Box (Wp b w.heap.size frT (nF n d) w w1 (l)) := ⟨S0.out.below hb⟩
  clear hb p0 p1
  obtain ⟨p0, p1⟩ := S1.out.box.c2
  rw [hnat]
  go_wp2_with fail
  refine (bbyte_any b l 40 40 _ S1.out.bd rfl (by have := HI.out; simp only [List.length_append, List.length_cons, List.length_nil, bsL_sz] at this ⊢; omega)).mono ?_
  rintro e w2 ⟨rfl, hd, hk⟩
  have S2 : Box (Wp b w.heap.size frT (nF n d) w w2 (l ++ [40])) := ⟨S1.out.wrote hd hk⟩
  clear hd hk p0 p1
  obtain ⟨p0, p1⟩ := S2.out.box.c2
  go_wp2_with fail
  refine (pitoa_any n _ (by omega) (by omega) S2.out.lib.here).mono ?_
  rintro e w3 ⟨rfl, hb⟩
  have S3 : Box (Wp b w.heap.size frT (nF n d) w w3 (l ++ [40])) := ⟨S2.out.below hb⟩
  clear hb p0 p1
  obtain ⟨p0, p1⟩ := S3.out.box.c2
  go_wp2_with fail
  refine (bstr_any b _ (bsL (Lib.itoa n)) _ S3.out.bd (by have := HI.out; simp only [List.length_append, List.length_cons, List.length_nil, bsL_sz] at this ⊢; omega)).mono ?_
  rintro e w4 ⟨rfl, hd, hk⟩
  rw [bsL_lst] at hd
  have S4 : Box (Wp b w.heap.size frT (nF n d) w w4 ((l ++ [40]) ++ Lib.itoa n)) := ⟨S3.out.wrote hd hk⟩
  clear hd hk p0 p1
  obtain ⟨p0, p1⟩ := S4.out.box.c2
  go_wp2_with fail
  refine (bbyte_any b _ 47 47 _ S4.out.bd rfl (by have := HI.out; simp only [List.length_append, List.length_cons, List.length_nil, bsL_sz] at this ⊢; omega)).mono ?_
  rintro e w5 ⟨rfl, hd, hk⟩
  have S5 : Box (Wp b w.heap.size frT (nF n d) w w5 (((l ++ [40]) ++ Lib.itoa n) ++ [47])) := ⟨S4.out.wrote hd hk⟩
  clear hd hk p0 p1
  obtain ⟨p0, p1⟩ := S5.out.box.c2
  go_wp2_with fail
  refine (pitoa_any d _ (by omega) (by omega) S5.out.lib.here).mono ?_
  rintro e w6 ⟨rfl, hb⟩
  have S6 : Box (Wp b w.heap.size frT (nF n d) w w6 (((l ++ [40]) ++ Lib.itoa n) ++ [47])) := ⟨S5.out.below hb⟩
  clear hb p0 p1
  obtain ⟨p0, p1⟩ := S6.out.box.c2
  go_wp2_with fail
  refine (bstr_any b _ (bsL (Lib.itoa d)) _ S6.out.bd (by have := HI.out; simp only [List.length_append, List.length_cons, List.length_nil, bsL_sz] at this ⊢; omega)).mono ?_
  rintro e w7 ⟨rfl, hd, hk⟩
  rw [bsL_lst] at hd
  have S7 : Box (Wp b w.heap.size frT (nF n d) w w7 ((((l ++ [40]) ++ Lib.itoa n) ++ [47]) ++ Lib.itoa d)) := ⟨S6.out.wrote hd hk⟩
  clear hd hk p0 p1
  obtain ⟨p0, p1⟩ := S7.out.box.c2
  go_wp2_with fail
  refine (bbyte_any b _ 41 41 _ S7.out.bd rfl (by have := HI.out; simp only [List.length_append, List.length_cons, List.length_nil, bsL_sz] at this ⊢; omega)).mono ?_
  rintro e w8 ⟨rfl, hd, hk⟩
  have S8 : Box (Wp b w.heap.size frT (nF n d) w w8 (((((l ++ [40]) ++ Lib.itoa n) ++ [47]) ++ Lib.itoa d) ++ [41])) := ⟨S7.out.wrote hd hk⟩
  clear hd hk p0 p1
  obtain ⟨p0, p1⟩ := S8.out.box.c2
  go_wp2_with fail
  go_end0
  rw [← E.out]
  exact S8.out.fin
 by_cases hn : n < 0
 ·by_cases hd1 : d = 1
  ·exact caseN1 hn hd1
  ·exact caseND hn hd1
 ·by_cases hd1 : d = 1
  ·exact caseP1 hn hd1
  ·exact casePD hn hd1
end
end Go.Proofs.YtkdojgkiclndfaaGreatDoor
