/- SilenceOpen: the walk. -/
import Derived.Test.YtoafpajibeejlaaOpens
import Derived.Test.YtoafpajibeejlaaGen4o
import Derived.Test.YtoafpajibeejlaaArgs
import Derived.Deep.CutBlock
import Derived.Deep.DeepAppendRoom
import Derived.ArgAppend
set_option linter.unusedVariables false
set_option linter.unusedSimpArgs false
namespace Go.Proofs.Ytoafpajibeejlaa
open Go.RowKit

def aMat : Mat := (⟨#[97]⟩, 0, ⟨#[]⟩)
theorem take_stopL {α : Type} {l : List α} {k L : Nat} (h : ¬ (k < l.length ∧ k < L)) (h1 : k ≤ l.length) (h2 : k ≤ L) : l.take k = l.take L ∧ (l.take L).length = k := by
  by_cases e : k = L
  · subst e; exact ⟨rfl, by rw [List.length_take]; omega⟩
  · have : k = l.length := by omega
    subst this
    rw [List.take_length, List.take_of_length_le (by omega)]
    exact ⟨rfl, rfl⟩
theorem take_nextL {α : Type} {l : List α} {k : Nat} {x : α} (h : l[k]? = some x) : l.take (k + 1) = l.take k ++ [x] := by
  obtain ⟨hlt, e⟩ := List.getElem?_eq_some_iff.1 h
  rw [List.take_succ_eq_append_getElem hlt, e]
/-- the copy of the first matchers -/
def OwM (w : World) (ms : List Mat) (csS : Array Value) (v i : Value) (wr : World) : Prop :=
  ∃ k : Nat, k ≤ ms.length ∧ k ≤ 9 ∧ i = .int .i64 k ∧ wr.ownsRow w.heap.size 27 3 v k ((ms.take k).flatMap matCells) ∧ Blk wr w.heap.size 24 csS ∧ Below w.heap.size w wr
def OwMe (w : World) (ms : List Mat) (csS : Array Value) (v : Value) (wr : World) : Prop :=
  ∃ A n c, v = .slice A n c ∧ Mats wr w.heap.size (.slice A n c) (ms.take 9) ∧ Blk wr w.heap.size 24 csS ∧ Below w.heap.size w wr
theorem owm_end {w wr : World} {ms : List Mat} {csS : Array Value} {v : Value} {k : Nat} (hstop : ¬ (k < ms.length ∧ k < 9)) (h1 : k ≤ ms.length) (h2 : k ≤ 9) (hown : wr.ownsRow w.heap.size 27 3 v k ((ms.take k).flatMap matCells)) (hS : Blk wr w.heap.size 24 csS) (hb : Below w.heap.size w wr) : OwMe w ms csS v wr := by
  obtain ⟨A, c, rfl⟩ := own_form hown
  obtain ⟨e1, e2⟩ := take_stopL hstop h1 h2
  refine ⟨A, k, c, rfl, ?_, hS, hb⟩
  have := Seq.of_own (base' := w.heap.size) hown
  unfold Mats
  rw [e2, ← e1]; exact this
theorem short_fit (s : ByteArray) (h : s.size ≤ maxLen) : (short s 20).size ≤ maxLen := by
  unfold short
  split
  · simp; unfold maxLen; omega
  · exact h
/-- behind the switch: y, and x as it was -/
def OwCut (w : World) (gx : Nat) (x : Sil) (xv : Value) (W3 : World) (wx : World) : Prop :=
  ∃ (y : Sil) (Ay : Option Addr) (ny cy : Nat), Blk wx (gx + 1) 24 #[.int .i64 y.id, .slice Ay ny cy, .string y.ow, .string y.se, .int .i64 y.cl, .int .i64 y.fr, .int .i64 y.un, .int .i64 y.cp, .int .i64 y.hd] ∧ Mats wx w.heap.size (.slice Ay ny cy) y.ms ∧ SilFit y ∧ Blk wx gx 24 #[.int .i64 x.id, xv, .string x.ow, .string x.se, .int .i64 x.cl, .int .i64 x.fr, .int .i64 x.un, .int .i64 x.cp, .int .i64 x.hd] ∧ Mats wx w.heap.size xv x.ms ∧ Below W3.heap.size W3 wx
/-- what the loop of appends knows -/
def OwL (w : World) (gx : Nat) (x : Sil) (xv : Value) (W3 : World) (T0 : Int) (i : Value) (wr : World) : Prop :=
  ∃ (j : Nat) (Ay : Option Addr) (cy : Nat), (j : Int) ≤ T0 ∧ i = .int .i64 (T0 - (j : Int)) ∧ Blk wr (gx + 1) 24 #[.int .i64 x.id, .slice Ay (x.ms ++ List.replicate j aMat).length cy, .string x.ow, .string x.se, .int .i64 x.cl, .int .i64 x.fr, .int .i64 x.un, .int .i64 x.cp, .int .i64 x.hd] ∧ wr.ownsRow W3.heap.size 27 3 (.slice Ay (x.ms ++ List.replicate j aMat).length cy) (x.ms ++ List.replicate j aMat).length ((x.ms ++ List.replicate j aMat).flatMap matCells) ∧ Blk wr gx 24 #[.int .i64 x.id, xv, .string x.ow, .string x.se, .int .i64 x.cl, .int .i64 x.fr, .int .i64 x.un, .int .i64 x.cp, .int .i64 x.hd] ∧ Mats wr w.heap.size xv x.ms ∧ Below W3.heap.size W3 wr
theorem own_two {w : World} {B t size n c : Nat} {A : Option Addr} {xs : List Value} (h : w.ownsRow B t size (.slice A n c) n xs) : (A = none ∧ n = 0 ∧ c = 0) ∨ ∃ g, A = some ⟨g, 0, none⟩ := by
  rcases h.2 with ⟨h1, h2⟩ | ⟨g, cap, cur, hv, _⟩
  · cases h1; exact .inl ⟨rfl, rfl, rfl⟩
  · cases hv; exact .inr ⟨g, rfl⟩
theorem own_cells {w : World} {B t size n c g : Nat} {xs : List Value} (h : w.ownsRow B t size (.slice (some ⟨g, 0, none⟩) n c) n xs) (hn : xs.length ≤ xs.length) : ∀ j u, xs[j]? = some u → w.cell? ⟨g, j, none⟩ = some u := by
  have hs := Seq.of_own (base' := 0) h
  obtain ⟨hl, A', c', hv, _, _, h2⟩ := hs
  cases hv
  intro j u hu
  have hj := (List.getElem?_eq_some_iff.1 hu).1
  obtain ⟨b, off, hA, _, hx⟩ := h2 (by
    rcases Nat.eq_zero_or_pos n with e | e
    · subst e; rw [hl] at hj; omega
    · exact e)
  cases hA
  have := hx j u hu
  rwa [Nat.zero_add] at this
/-- x reads as before if the row that it shares was appended to in place -/
theorem share_keep {w w' : World} {B base N N' n c g cy cy' : Nat} {A : Option Addr} {ms : List Mat} {ys zs : List Value} (hx : Mats w base (.slice A n c) ms) (hA : 0 < n → ∃ gx, A = some ⟨gx, 0, none⟩)
    (hown : w.ownsRow B 27 3 (.slice (some ⟨g, 0, none⟩) N cy) N (ms.flatMap matCells ++ ys)) (hown' : w'.ownsRow B 27 3 (.slice (some ⟨g, 0, none⟩) N' cy') N' (ms.flatMap matCells ++ zs)) (hg : w.grownBy w' (some g)) : Mats w' base (.slice A n c) ms := by
  obtain ⟨h1, A', c', hv, hn, hc, h2⟩ := hx
  cases hv
  refine ⟨h1, A, c, rfl, hn, hc, fun h0 => ?_⟩
  obtain ⟨b, off, hAb, hf, hcl⟩ := h2 h0
  obtain ⟨gx, hgx⟩ := hA h0
  rw [hgx] at hAb
  simp only [Option.some.injEq, Addr.mk.injEq, and_true] at hAb
  obtain ⟨h3, h4⟩ := hAb
  subst h4
  subst h3
  by_cases e : gx = g
  · subst e
    have ht := own_ty hown' gx rfl
    refine ⟨gx, 0, hgx, ⟨ht.2.lt, .inr ht.2⟩, fun j u hu => ?_⟩
    rw [Nat.zero_add]
    refine own_cells hown' (Nat.le_refl _) j u ?_
    rw [List.getElem?_append_left (List.getElem?_eq_some_iff.1 hu).1]
    exact hu
  · have hbk : w'.heap[gx]? = w.heap[gx]? := hg.block gx hf.1 (fun h => e (by first | exact (Option.some.inj h).symm | exact Option.some.inj h))
    refine ⟨gx, 0, hgx, ⟨Nat.lt_of_lt_of_le hf.1 hg.size, by rw [hbk]; exact hf.2⟩, fun j u hu => ?_⟩
    exact (World.cell?_of_block (a := ⟨gx, 0 + j, none⟩) hbk).trans (hcl j u hu)
theorem add_at (g j : Nat) : (⟨g, 0, none⟩ : Addr).add j = ⟨g, j, none⟩ := by unfold Addr.add; split <;> simp_all
theorem own_holds {w : World} {B t size n c : Nat} {A : Option Addr} {xs : List Value} (h : w.ownsRow B t size (.slice A n c) n xs) : ∀ b, A = some b → ∀ j u, xs[j]? = some u → w.cell? (b.add j) = some u := by
  intro b hb j u hu
  rcases own_two h with ⟨e, _, _⟩ | ⟨g, e⟩
  · rw [e] at hb; cases hb
  · subst e
    cases hb
    rw [add_at]
    exact own_cells h (Nat.le_refl _) j u hu
theorem own_none {w : World} {B t size n c : Nat} {A : Option Addr} {xs : List Value} (h : w.ownsRow B t size (.slice A n c) n xs) : A = none → n = 0 ∧ c = 0 := by
  intro e
  rcases own_two h with ⟨_, e1, e2⟩ | ⟨g, e3⟩
  · exact ⟨e1, e2⟩
  · rw [e] at e3; cases e3
theorem grown_none {w w' : World} (h : w.grownBy w' none) : Below w.heap.size w w' := ⟨h.os, h.tape, h.output, h.size, fun i hi => h.block i hi (fun e => by cases e)⟩
theorem rep_next (ms : List Mat) (j : Nat) : (ms ++ List.replicate j aMat) ++ [aMat] = ms ++ List.replicate (j + 1) aMat := by
  rw [List.append_assoc, List.replicate_succ']
theorem rep_flat (ms : List Mat) (j : Nat) : (ms ++ List.replicate j aMat).flatMap matCells ++ matCells aMat = (ms ++ List.replicate (j + 1) aMat).flatMap matCells := by
  rw [← rep_next, List.flatMap_append]; simp
theorem rep_ok {ms : List Mat} (h : MsOk ms) (h3 : ms.length ≤ 3) (j : Nat) (hj : j ≤ 100) : MsOk (ms ++ List.replicate j aMat) := by
  refine ⟨by simp; omega, fun x hx => ?_⟩
  rcases List.mem_append.1 hx with hx | hx
  · exact h.2 x hx
  · obtain ⟨_, rfl⟩ := List.mem_replicate.1 hx
    exact ⟨by show (⟨#[97]⟩ : ByteArray).size ≤ maxLen; unfold maxLen; decide, by show (⟨#[]⟩ : ByteArray).size ≤ maxLen; unfold maxLen; decide⟩

set_option maxRecDepth 100000 in
set_option maxHeartbeats 4000000 in
theorem open_walk (s : Sil) (A : Option Addr) (n c : Nat) (tick : Int) (A2 : Option Addr) (n2 c2 : Nat) (l : List Int) (which v : Int) (w : World)
    (hm : Mats w w.heap.size (.slice A n c) s.ms ∧ SilArg s) (ht1 : -9223372036854775808 ≤ tick) (ht2 : tick ≤ 9223372036854775807) (h : Ints w w.heap.size (.slice A2 n2 c2) l) (hq1 : -9223372036854775808 ≤ which) (hq2 : which ≤ 9223372036854775807) (hv1 : -9223372036854775808 ≤ v) (hv2 : v ≤ 9223372036854775807) :
    Calls Try.prog 3 #[.agg #[.int .i64 s.id, .slice A n c, .string s.ow, .string s.se, .int .i64 s.cl, .int .i64 s.fr, .int .i64 s.un, .int .i64 s.cp, .int .i64 s.hd], .int .i64 tick, .slice A2 n2 c2, .int .i64 which, .int .i64 v] w fun e w' => e = .returned (.bool true) ∧ Below w.heap.size w w' := by
  obtain ⟨hm, harg⟩ := hm
  have HI := Lib.hid h
  obtain ⟨hnm, hnb⟩ := hm.len
  have HM := Lib.hid (And.intro hm hnm)
  have HARG := Lib.hid harg
  have hso : s.ow.size ≤ maxLen := harg.2.1
  have hss : s.se.size ≤ maxLen := harg.2.2.1
  have HJ := Lib.hid (info_parts matInfo)
  have HFS : Hid (SilFit ⟨s.id, s.ms.take 9, short s.ow 20, short s.se 20, s.cl, s.fr, s.un, s.cp, s.hd⟩) :=
    ⟨⟨by simp; omega, fun x hx => ⟨(harg.1 x (List.mem_of_mem_take hx)).1, (harg.1 x (List.mem_of_mem_take hx)).2.2⟩⟩, short_fit _ hso, short_fit _ hss, harg.2.2.2.2.2.2.1.2⟩
  clear h hm hnm harg
  go_enter Try.func3, Try.ntmps3
  go_upto_block 0 with fail
  go_cut [11] (fun v wx => OwMe w s.ms #[.int .i64 s.id, .slice A n c, .string s.ow, .string s.se, .int .i64 s.cl, .int .i64 s.fr, .int .i64 s.un, .int .i64 s.cp, .int .i64 s.hd] v wx)
  case first =>
    go_wp2
    go_loopw [11, 12] (fun v i wr => OwM w s.ms #[.int .i64 s.id, .slice A n c, .string s.ow, .string s.se, .int .i64 s.cl, .int .i64 s.fr, .int .i64 s.un, .int .i64 s.cp, .int .i64 s.hd] v i wr) (fun _ i _ => 9 - (intOf i).toNat)
    case atStart => exact ⟨0, by omega, by omega, rfl, World.ownsRow_nil _ _ _ _, Blk.new _ _ _, bel1 _ _⟩
    case round =>
      obtain ⟨k, hk, hk4, rfl, hown, hbs, hbw⟩ := hrel
      have hsz := hbw.size
      obtain ⟨a0, a1, a2, a3, a4, a5, a6, a7, a8⟩ := hbs.nine
      by_cases hlt : k < s.ms.length ∧ k < 9
      · obtain ⟨hlt1, hlt2⟩ := hlt
        have hkn : (k : Int) < (n : Int) := by rw [HM.out.2]; omega
        obtain ⟨x, hx⟩ : ∃ x, s.ms[k]? = some x := ⟨s.ms[k], List.getElem?_eq_getElem _⟩
        obtain ⟨b, off, rfl, hb, c0, c1, c2⟩ := (HM.out.1.below hbw).at_ k _ hx
        obtain ⟨x0, x1, x2⟩ := x
        simp only at c0 c1 c2
        obtain ⟨j0, hj, hy0, hy1, hy2⟩ := HJ.out
        have HX := Lib.hid hx
        have HR := Lib.hid (And.intro hown (And.intro hbs hbw))
        clear hx hown hbs hbw
        go_wp2_with (at_builtin; refine wpList_append_own_at _ rfl _ _ 22 rfl w.heap.size 27 j0 _ 3 40 Try.underlying22 hj hy0 hy1 hy2 rfl (by decide) _ k ((s.ms.take k).flatMap matCells) rfl (by exact HR.out.1.alloc _) ⟨wr.heap.size, 0, none⟩ 1 1 (matCells (x0, x1, x2)) rfl rfl (cells3 _ _ _ _ _) (mat_one _) (by simp only [maxLen]; omega) (by omega) (by simp; omega) ?_; intro v' w9 hown9 hg9 _ hat9)
        have HF9 : Hid (Fr w.heap.size [27] wr w9) := grow_fr HR.out.1 (bel1 _ _) hg9
        have HO9 : Hid (w9.ownsRow w.heap.size 27 3 v' (k + 1) ((s.ms.take (k + 1)).flatMap matCells)) := by rw [Hid, take_nextL HX.out, List.flatMap_append]; simpa using hown9
        clear hown9 hg9 hat9 hj hy0 hy1 hy2
        go_roundw
        case rel => exact ⟨k + 1, by omega, by omega, by go_num, HO9.out, HR.out.2.1.keep HF9.out (by decide), HR.out.2.2.trans (fr_below HF9.out hsz)⟩
        case measure => simp [intOf]; omega
      · have HE := Lib.hid (owm_end hlt hk hk4 hown hbs hbw)
        have HLT := Lib.hid hlt
        clear hown hbs hbw hlt
        by_cases hkn : (k : Int) < (n : Int)
        · have hk44 : ¬ (k : Int) < 9 := by have := HLT.out; have := HM.out.2; omega
          go_wp2
          go_meet
          exact HE.out
        · go_wp2
          go_meet
          exact HE.out
  case rest =>
    obtain ⟨Af, nf, cf, rfl, hm1, hs1, hw1⟩ := hcut
    obtain ⟨W1, hW1⟩ : ∃ x, x = wc := ⟨_, rfl⟩
    subst hW1
    obtain ⟨a0, a1, a2, a3, a4, a5, a6, a7, a8⟩ := hs1.nine
    have af := hs1.frozen
    have HS1 : Hid (Mats (((W1.setCell ⟨w.heap.size, 1, none⟩ (.slice Af nf cf)).setCell ⟨w.heap.size, 2, none⟩ (.string (short s.ow 20))).setCell ⟨w.heap.size, 3, none⟩ (.string (short s.se 20))) w.heap.size (.slice Af nf cf) (s.ms.take 9) ∧ Blk (((W1.setCell ⟨w.heap.size, 1, none⟩ (.slice Af nf cf)).setCell ⟨w.heap.size, 2, none⟩ (.string (short s.ow 20))).setCell ⟨w.heap.size, 3, none⟩ (.string (short s.se 20))) w.heap.size 24 #[.int .i64 s.id, .slice Af nf cf, .string (short s.ow 20), .string (short s.se 20), .int .i64 s.cl, .int .i64 s.fr, .int .i64 s.un, .int .i64 s.cp, .int .i64 s.hd] ∧ Below w.heap.size w (((W1.setCell ⟨w.heap.size, 1, none⟩ (.slice Af nf cf)).setCell ⟨w.heap.size, 2, none⟩ (.string (short s.ow 20))).setCell ⟨w.heap.size, 3, none⟩ (.string (short s.se 20)))) := by
      have f1 := Fr.setAt (Fr.refl w.heap.size [24] W1) hs1.ty (by decide) (Nat.le_refl _) 1 (.slice Af nf cf)
      have f2 := Fr.setAt f1 (hs1.ty.set _ _) (by decide) (Nat.le_refl _) 2 (.string (short s.ow 20))
      have f3 := Fr.setAt f2 ((hs1.ty.set _ _).set _ _) (by decide) (Nat.le_refl _) 3 (.string (short s.se 20))
      refine ⟨hm1.keep f3 (by decide), ?_, ((hw1.setCell (p := ⟨w.heap.size, 1, none⟩) (Nat.le_refl _) _).setCell (p := ⟨w.heap.size, 2, none⟩) (Nat.le_refl _) _).setCell (p := ⟨w.heap.size, 3, none⟩) (Nat.le_refl _) _⟩
      have := ((hs1.set 1 (.slice Af nf cf)).set 2 (.string (short s.ow 20))).set 3 (.string (short s.se 20))
      simpa using this
    clear hm1 hs1 hw1
    go_upto_region 9 with (go_at_call 11; refine (short_any _ 20 _ (by first | exact hso | exact hss) (by omega)).mono ?_; rintro e w' ⟨rfl, rfl⟩)
    generalize ((W1.setCell ⟨w.heap.size, 1, none⟩ (.slice Af nf cf)).setCell ⟨w.heap.size, 2, none⟩ (.string (short s.ow 20))).setCell ⟨w.heap.size, 3, none⟩ (.string (short s.se 20)) = W3 at HS1 ⊢
    clear a0 a1 a2 a3 a4 a5 a6 a7 a8 af
    have hst0 := around_bd tick 1048580 (by omega)
    have hz3 : w.heap.size < W3.heap.size := HS1.out.2.1.ty.lt
    go_upto_region 12 with (first
      | (go_at_call 12; refine (around_any _ _ _ (by omega) (by omega) (by omega) (by omega)).mono ?_; rintro e w' ⟨rfl, rfl⟩)
      | (go_at_call 13
         refine (gsil_own _ _ _ w.heap.size l _ _ _ (by exact HI.out.below HS1.out.2.2) (by omega) (by omega) (by omega) (by omega) (by omega)).mono ?_
         rintro e w4 ⟨x, Ax, nx, cx, rfl, hox, hgx, hbx⟩
         have HX4 := Lib.hid (And.intro hox (And.intro hgx hbx))
         have hz4 : W3.heap.size ≤ w4.heap.size := hbx.size
         clear hox hgx hbx))
    obtain ⟨start, hstart⟩ : ∃ z, around tick 1048580 = z := ⟨_, rfl⟩
    rw [hstart] at HX4 hst0 ⊢
    clear hstart
    have HW5 : Hid (Blk ((w4.alloc (.cells #[.int .i64 x.id, .slice Ax nx cx, .string x.ow, .string x.se, .int .i64 x.cl, .int .i64 x.fr, .int .i64 x.un, .int .i64 x.cp, .int .i64 x.hd] 24)).alloc (.cells #[.int .i64 x.id, .slice Ax nx cx, .string x.ow, .string x.se, .int .i64 x.cl, .int .i64 x.fr, .int .i64 x.un, .int .i64 x.cp, .int .i64 x.hd] 24)) w4.heap.size 24 #[.int .i64 x.id, .slice Ax nx cx, .string x.ow, .string x.se, .int .i64 x.cl, .int .i64 x.fr, .int .i64 x.un, .int .i64 x.cp, .int .i64 x.hd] ∧ Blk ((w4.alloc (.cells #[.int .i64 x.id, .slice Ax nx cx, .string x.ow, .string x.se, .int .i64 x.cl, .int .i64 x.fr, .int .i64 x.un, .int .i64 x.cp, .int .i64 x.hd] 24)).alloc (.cells #[.int .i64 x.id, .slice Ax nx cx, .string x.ow, .string x.se, .int .i64 x.cl, .int .i64 x.fr, .int .i64 x.un, .int .i64 x.cp, .int .i64 x.hd] 24)) (w4.heap.size + 1) 24 #[.int .i64 x.id, .slice Ax nx cx, .string x.ow, .string x.se, .int .i64 x.cl, .int .i64 x.fr, .int .i64 x.un, .int .i64 x.cp, .int .i64 x.hd] ∧ Below W3.heap.size W3 ((w4.alloc (.cells #[.int .i64 x.id, .slice Ax nx cx, .string x.ow, .string x.se, .int .i64 x.cl, .int .i64 x.fr, .int .i64 x.un, .int .i64 x.cp, .int .i64 x.hd] 24)).alloc (.cells #[.int .i64 x.id, .slice Ax nx cx, .string x.ow, .string x.se, .int .i64 x.cl, .int .i64 x.fr, .int .i64 x.un, .int .i64 x.cp, .int .i64 x.hd] 24))) := ⟨(Blk.new _ _ _).below (bel1 _ _), Blk.newAt _ _ (by simp), ((HX4.out.2.2).alloc hz4 _).alloc (by simp; omega) _⟩
    have HOX : Hid (((w4.alloc (.cells #[.int .i64 x.id, .slice Ax nx cx, .string x.ow, .string x.se, .int .i64 x.cl, .int .i64 x.fr, .int .i64 x.un, .int .i64 x.cp, .int .i64 x.hd] 24)).alloc (.cells #[.int .i64 x.id, .slice Ax nx cx, .string x.ow, .string x.se, .int .i64 x.cl, .int .i64 x.fr, .int .i64 x.un, .int .i64 x.cp, .int .i64 x.hd] 24)).ownsRow W3.heap.size 27 3 (.slice Ax nx cx) x.ms.length (x.ms.flatMap matCells)) := (HX4.out.1.alloc _).alloc _
    have HGX := Lib.hid HX4.out.2.1
    generalize (w4.alloc (.cells #[.int .i64 x.id, .slice Ax nx cx, .string x.ow, .string x.se, .int .i64 x.cl, .int .i64 x.fr, .int .i64 x.un, .int .i64 x.cp, .int .i64 x.hd] 24)).alloc (.cells #[.int .i64 x.id, .slice Ax nx cx, .string x.ow, .string x.se, .int .i64 x.cl, .int .i64 x.fr, .int .i64 x.un, .int .i64 x.cp, .int .i64 x.hd] 24) = W5 at HW5 HOX ⊢
    clear HX4
    obtain ⟨gx, hgx⟩ : ∃ z, w4.heap.size = z := ⟨_, rfl⟩
    rw [hgx] at HW5 hz4 ⊢
    clear hgx
    have HFX : Hid (SilFit x) := HGX.out.1
    have hx3 : x.ms.length ≤ 3 := HGX.out.2.1
    obtain ⟨Ax', cx', hvx⟩ := own_form HOX.out
    have hnx : nx = x.ms.length := by injection hvx
    clear hvx
    have HMX : Hid (Mats W5 w.heap.size (.slice Ax nx cx) x.ms) := Seq.of_own HOX.out
    have HAX : Hid (0 < nx → ∃ g, Ax = some ⟨g, 0, none⟩) := by
      intro h0
      subst hnx
      rcases own_two HOX.out with ⟨_, e, _⟩ | e
      · omega
      · exact e
    subst hnx
    have hzz : gx + 1 < W5.heap.size := HW5.out.2.1.ty.lt
    obtain ⟨b0, b1, b2, b3, b4, b5, b6, b7, b8⟩ := HW5.out.2.1.nine
    have bf := HW5.out.2.1.frozen
    obtain ⟨a0, a1, a2, a3, a4, a5, a6, a7, a8⟩ := HW5.out.1.nine
    have hwb := around_bd which 5 (by omega)
    go_upto_block 2 with (go_at_call 12; refine (around_any _ _ _ (by omega) (by omega) (by omega) (by omega)).mono ?_; rintro e w' ⟨rfl, rfl⟩)
    obtain ⟨z, hz⟩ : ∃ z, around which 5 = z := ⟨_, rfl⟩
    rw [hz] at hwb ⊢
    clear hz
    go_cut [15] (fun s15 wx => s15 = .pointer (some ⟨gx + 1, 0, none⟩) ∧ OwCut w gx x (.slice Ax x.ms.length cx) W3 wx)
    case first =>
      rcases (show z = 0 ∨ z = 1 ∨ z = 2 ∨ z = 3 ∨ z = 4 by omega) with rfl | rfl | rfl | rfl | rfl
      · go_wp2
        go_meet
        exact ⟨rfl, { x with cl := v }, Ax, x.ms.length, cx, by have := HW5.out.2.1.set 4 (.int .i64 v); simpa using this, HMX.out.keep (Fr.setAt (Fr.refl w.heap.size [24] _) HW5.out.2.1.ty (by decide) (by omega) 4 _) (by decide), HFX.out, HW5.out.1.far (by simp) _, HMX.out.keep (Fr.setAt (Fr.refl w.heap.size [24] _) HW5.out.2.1.ty (by decide) (by omega) 4 _) (by decide), HW5.out.2.2.setCell (by simp only; omega) _⟩
      · go_wp2
        go_meet
        exact ⟨rfl, { x with cp := v }, Ax, x.ms.length, cx, by have := HW5.out.2.1.set 7 (.int .i64 v); simpa using this, HMX.out.keep (Fr.setAt (Fr.refl w.heap.size [24] _) HW5.out.2.1.ty (by decide) (by omega) 7 _) (by decide), HFX.out, HW5.out.1.far (by simp) _, HMX.out.keep (Fr.setAt (Fr.refl w.heap.size [24] _) HW5.out.2.1.ty (by decide) (by omega) 7 _) (by decide), HW5.out.2.2.setCell (by simp only; omega) _⟩
      · go_wp2
        go_meet
        exact ⟨rfl, { x with fr := v }, Ax, x.ms.length, cx, by have := HW5.out.2.1.set 5 (.int .i64 v); simpa using this, HMX.out.keep (Fr.setAt (Fr.refl w.heap.size [24] _) HW5.out.2.1.ty (by decide) (by omega) 5 _) (by decide), HFX.out, HW5.out.1.far (by simp) _, HMX.out.keep (Fr.setAt (Fr.refl w.heap.size [24] _) HW5.out.2.1.ty (by decide) (by omega) 5 _) (by decide), HW5.out.2.2.setCell (by simp only; omega) _⟩
      · go_wp2
        go_meet
        exact ⟨rfl, { x with un := v }, Ax, x.ms.length, cx, by have := HW5.out.2.1.set 6 (.int .i64 v); simpa using this, HMX.out.keep (Fr.setAt (Fr.refl w.heap.size [24] _) HW5.out.2.1.ty (by decide) (by omega) 6 _) (by decide), ⟨HFX.out.1, HFX.out.2.1, HFX.out.2.2.1, hv2⟩, HW5.out.1.far (by simp) _, HMX.out.keep (Fr.setAt (Fr.refl w.heap.size [24] _) HW5.out.2.1.ty (by decide) (by omega) 6 _) (by decide), HW5.out.2.2.setCell (by simp only; omega) _⟩
      · have hT := around_bd v 12 (by omega)
        go_wp2_with (go_at_call 12; refine (around_any _ _ _ (by omega) (by omega) (by omega) (by omega)).mono ?_; rintro e w' ⟨rfl, rfl⟩)
        obtain ⟨T0, hT0⟩ : ∃ z, around v 12 = z := ⟨_, rfl⟩
        rw [hT0] at hT ⊢
        clear hT0
        go_loopw [16] (fun i wr => OwL w gx x (.slice Ax x.ms.length cx) W3 T0 i wr) (fun i _ => (intOf i).toNat)
        case atStart => exact ⟨0, Ax, cx, by omega, by simp, by simpa using HW5.out.2.1, by simpa using HOX.out, HW5.out.1, HMX.out, HW5.out.2.2⟩
        case round =>
          clear a0 a1 a2 a3 a4 a5 a6 a7 a8 b0 b1 b2 b3 b4 b5 b6 b7 b8 bf
          obtain ⟨j, Ay, cy, hj, rfl, hby, hoy, hbx, hmx, hbw⟩ := hrel
          have hszw := hbw.size
          obtain ⟨b0, b1, b2, b3, b4, b5, b6, b7, b8⟩ := hby.nine
          have bf := hby.frozen
          have hgy : gx + 1 < wr.heap.size := hby.ty.lt
          have hlenj : (x.ms ++ List.replicate j aMat).length = x.ms.length + j := by simp
          by_cases hpos : 0 < T0 - (j : Int)
          · obtain ⟨j0, hj0, hy0, hy1, hy2⟩ := HJ.out
            have HR := Lib.hid (And.intro hby (And.intro hoy (And.intro hbx (And.intro hmx hbw))))
            have HLJ := Lib.hid hlenj
            have hlj : (x.ms ++ List.replicate j aMat).length ≤ 20 := by omega
            have HNX : Hid ((x.ms ++ List.replicate (j + 1) aMat).length = (x.ms ++ List.replicate j aMat).length + 1) := by simp [Hid]; omega
            clear hby hoy hbx hmx hbw hlenj
            obtain ⟨NN, hNN⟩ : ∃ q, (x.ms ++ List.replicate j aMat).length = q := ⟨_, rfl⟩
            rw [hNN] at HR HNX hlj b1
            clear HLJ
            by_cases hroom : NN + 1 ≤ cy
            · obtain ⟨g, rfl⟩ : ∃ g, Ay = some ⟨g, 0, none⟩ := by
                rcases own_two HR.out.2.1 with ⟨_, _, e⟩ | e
                · omega
                · exact e
              go_wp2_with (at_builtin; refine wpList_append_own_spare _ rfl _ _ 22 rfl W3.heap.size 27 j0 3 Try.underlying22 hj0 hy1 g NN cy ((x.ms ++ List.replicate j aMat).flatMap matCells) rfl (by exact HR.out.2.1.alloc _) ⟨wr.heap.size, 0, none⟩ 1 1 (matCells aMat) rfl rfl (cells3 _ _ _ _ _) (mat_one _) hroom ?_; intro w9 hown9 hg9; have hK9 := share_keep (HR.out.2.2.2.1.below (bel1 _ _)) HAX.out (by have := HR.out.2.1.alloc (.cells #[.string ⟨#[97]⟩, .int .i64 0, .string ⟨#[]⟩] 27); rw [List.flatMap_append] at this; exact this) (by rw [List.flatMap_append, List.append_assoc] at hown9; exact hown9) hg9; have HF9 : Hid (Fr W3.heap.size [27] wr w9) := grow_fr HR.out.2.1 (bel1 _ _) hg9; have HO9 : Hid (w9.ownsRow W3.heap.size 27 3 (.slice (some ⟨g, 0, none⟩) (NN + 1) cy) (NN + 1) ((x.ms ++ List.replicate (j + 1) aMat).flatMap matCells)) := (by rw [Hid, ← rep_flat]; exact hown9); have HK9 := Lib.hid hK9; have HB9 := Lib.hid (HR.out.1.keep HF9.out (by decide)); obtain ⟨d0, d1, d2, d3, d4, d5, d6, d7, d8⟩ := HB9.out.nine; have df := HB9.out.frozen; clear hown9 hg9 hK9)
              go_roundw
              case rel =>
                refine ⟨j + 1, some ⟨g, 0, none⟩, cy, by omega, by go_num, ?_, ?_, ?_, ?_, ?_⟩
                · rw [HNX.out]; have := HB9.out.set 1 (.slice (some ⟨g, 0, none⟩) (NN + 1) cy); simpa using this
                · rw [HNX.out]; exact own_fr HO9.out (Fr.setAt (Fr.refl w.heap.size [24] _) HB9.out.ty (by decide) (by omega) 1 _) (by decide)
                · exact (HR.out.2.2.1.keep HF9.out (by decide)).far (by simp) _
                · exact HK9.out.keep (Fr.setAt (Fr.refl w.heap.size [24] _) HB9.out.ty (by decide) (by omega) 1 _) (by decide)
                · exact (HR.out.2.2.2.2.trans ((fr_below HF9.out hszw))).setCell (by simp only; omega) _
              case measure => simp [intOf]; omega
            · go_wp2_with (at_builtin; refine wpList_append_grows _ rfl _ _ 22 rfl 27 j0 _ 3 40 Try.underlying22 hj0 hy0 hy1 hy2 rfl (by decide) Ay NN cy ((x.ms ++ List.replicate j aMat).flatMap matCells) rfl (own_none HR.out.2.1) HR.out.2.1.1 (own_holds (HR.out.2.1.alloc _)) ⟨wr.heap.size, 0, none⟩ 1 1 (matCells aMat) rfl rfl (cells3 _ _ _ _ _) (mat_one _) (by omega) (by simp only [maxLen]; omega) (by omega) ?_; intro v9 w9 hown9 hg9; have hbl9 := (bel1 wr (.cells #[.string ⟨#[97]⟩, .int .i64 0, .string ⟨#[]⟩] 27)).trans ((grown_none hg9).mono (by simp)); obtain ⟨A9, c9, hv9⟩ := own_form hown9; subst hv9; have HO9 : Hid (w9.ownsRow W3.heap.size 27 3 (.slice A9 (NN + 1) c9) (NN + 1) ((x.ms ++ List.replicate (j + 1) aMat).flatMap matCells)) := (by rw [Hid, ← rep_flat]; exact own_base hown9 (by simp; omega)); have HBL := Lib.hid hbl9; have HB9 := Lib.hid (HR.out.1.below hbl9); obtain ⟨d0, d1, d2, d3, d4, d5, d6, d7, d8⟩ := HB9.out.nine; have df := HB9.out.frozen; clear hown9 hg9 hbl9)
              go_roundw
              case rel =>
                refine ⟨j + 1, A9, c9, by omega, by go_num, ?_, ?_, ?_, ?_, ?_⟩
                · rw [HNX.out]; have := HB9.out.set 1 (.slice A9 (NN + 1) c9); simpa using this
                · rw [HNX.out]; exact own_fr HO9.out (Fr.setAt (Fr.refl w.heap.size [24] _) HB9.out.ty (by decide) (by omega) 1 _) (by decide)
                · exact (HR.out.2.2.1.below HBL.out).far (by simp) _
                · exact (HR.out.2.2.2.1.below HBL.out).keep (Fr.setAt (Fr.refl w.heap.size [24] _) HB9.out.ty (by decide) (by omega) 1 _) (by decide)
                · exact (HR.out.2.2.2.2.trans (HBL.out.mono hszw)).setCell (by simp only; omega) _
              case measure => simp [intOf]; omega
          · have HE : Hid (OwCut w gx x (.slice Ax x.ms.length cx) W3 wr) := ⟨⟨x.id, x.ms ++ List.replicate j aMat, x.ow, x.se, x.cl, x.fr, x.un, x.cp, x.hd⟩, Ay, _, cy, hby, Seq.of_own hoy, ⟨rep_ok HFX.out.1 hx3 j (by omega), HFX.out.2⟩, hbx, hmx, hbw⟩
            clear hby hoy hbx hmx hbw
            go_wp2
            go_meet
            exact ⟨rfl, HE.out⟩
    case rest =>
      clear a0 a1 a2 a3 a4 a5 a6 a7 a8 b0 b1 b2 b3 b4 b5 b6 b7 b8 bf HW5 HMX HOX hzz
      obtain ⟨rfl, y, Ay, ny, cy, hby, hmy, hfy, hbx, hmx, hbw⟩ := hcut
      obtain ⟨W6, hW6⟩ : ∃ x, x = wc := ⟨_, rfl⟩
      subst hW6
      have hz6 := hbw.size
      have HS6 : Hid (Mats W6 w.heap.size (.slice Af nf cf) (s.ms.take 9) ∧ Blk W6 w.heap.size 24 #[.int .i64 s.id, .slice Af nf cf, .string (short s.ow 20), .string (short s.se 20), .int .i64 s.cl, .int .i64 s.fr, .int .i64 s.un, .int .i64 s.cp, .int .i64 s.hd] ∧ Below w.heap.size w W6 ∧ Blk W6 (gx + 1) 24 #[.int .i64 y.id, .slice Ay ny cy, .string y.ow, .string y.se, .int .i64 y.cl, .int .i64 y.fr, .int .i64 y.un, .int .i64 y.cp, .int .i64 y.hd] ∧ Mats W6 w.heap.size (.slice Ay ny cy) y.ms ∧ SilFit y ∧ Blk W6 gx 24 #[.int .i64 x.id, .slice Ax x.ms.length cx, .string x.ow, .string x.se, .int .i64 x.cl, .int .i64 x.fr, .int .i64 x.un, .int .i64 x.cp, .int .i64 x.hd] ∧ Mats W6 w.heap.size (.slice Ax x.ms.length cx) x.ms) := ⟨HS1.out.1.below hbw, HS1.out.2.1.below hbw, HS1.out.2.2.trans (hbw.mono (by omega)), hby, hmy, hfy, hbx, hmx⟩
      clear hby hmy hfy hbx hmx hbw HS1
      obtain ⟨a0, a1, a2, a3, a4, a5, a6, a7, a8⟩ := HS6.out.2.1.nine
      go_wp2_with (first
        | (go_at_call 14
           (with_reducible refine (opens_any ⟨s.id, s.ms.take 9, short s.ow 20, short s.se 20, s.cl, s.fr, s.un, s.cp, s.hd⟩ _ _ _ _ _ ?h1 HFS.out).mono ?_)
           case h1 => exact Seq.raise HS6.out.1 (by omega)
           rintro e w7 ⟨rfl, hb7⟩
           have HS7 : Hid (Below w.heap.size w w7 ∧ Blk w7 (gx + 1) 24 #[.int .i64 y.id, .slice Ay ny cy, .string y.ow, .string y.se, .int .i64 y.cl, .int .i64 y.fr, .int .i64 y.un, .int .i64 y.cp, .int .i64 y.hd] ∧ Mats w7 w.heap.size (.slice Ay ny cy) y.ms ∧ SilFit y ∧ Blk w7 gx 24 #[.int .i64 x.id, .slice Ax x.ms.length cx, .string x.ow, .string x.se, .int .i64 x.cl, .int .i64 x.fr, .int .i64 x.un, .int .i64 x.cp, .int .i64 x.hd] ∧ Mats w7 w.heap.size (.slice Ax x.ms.length cx) x.ms) := ⟨HS6.out.2.2.1.trans (hb7.mono (by omega)), HS6.out.2.2.2.1.below hb7, HS6.out.2.2.2.2.1.below hb7, HS6.out.2.2.2.2.2.1, HS6.out.2.2.2.2.2.2.1.below hb7, HS6.out.2.2.2.2.2.2.2.below hb7⟩
           have hz7 : w.heap.size ≤ w7.heap.size := HS7.out.1.size
           obtain ⟨b0, b1, b2, b3, b4, b5, b6, b7, b8⟩ := HS7.out.2.2.2.2.1.nine
           clear hb7 a0 a1 a2 a3 a4 a5 a6 a7 a8)
        | (go_at_call 14
           (with_reducible refine (opens_any x _ _ _ _ _ ?h2 HFX.out).mono ?_)
           case h2 => exact Seq.raise HS7.out.2.2.2.2.2 (by omega)
           rintro e w8 ⟨rfl, hb8⟩
           have HS8 : Hid (Below w.heap.size w w8 ∧ Blk w8 (gx + 1) 24 #[.int .i64 y.id, .slice Ay ny cy, .string y.ow, .string y.se, .int .i64 y.cl, .int .i64 y.fr, .int .i64 y.un, .int .i64 y.cp, .int .i64 y.hd] ∧ Mats w8 w.heap.size (.slice Ay ny cy) y.ms ∧ SilFit y) := ⟨HS7.out.1.trans (hb8.mono (by omega)), HS7.out.2.1.below hb8, HS7.out.2.2.1.below hb8, HS7.out.2.2.2.1⟩
           have hz8 : w.heap.size ≤ w8.heap.size := HS8.out.1.size
           obtain ⟨y0, y1, y2, y3, y4, y5, y6, y7, y8⟩ := HS8.out.2.1.nine
           clear hb8 b0 b1 b2 b3 b4 b5 b6 b7 b8)
        | (go_at_call 14
           (with_reducible refine (opens_any y _ _ _ _ _ ?h3 HS8.out.2.2.2).mono ?_)
           case h3 => exact Seq.raise HS8.out.2.2.1 (by omega)
           rintro e w9 ⟨rfl, hb9⟩
           have HS9 : Hid (Below w.heap.size w w9) := HS8.out.1.trans (hb9.mono (by omega))
           clear hb9 y0 y1 y2 y3 y4 y5 y6 y7 y8)
        | (go_at_call 15
           refine (lives_true _).mono ?_
           rintro e w10 ⟨rfl, hb10⟩
           have HS10 : Hid (Below w.heap.size w w10) := HS9.out.trans (hb10.mono HS9.out.size)
           clear hb10))
      go_ret
      exact ⟨rfl, HS10.out⟩
end Go.Proofs.Ytoafpajibeejlaa
