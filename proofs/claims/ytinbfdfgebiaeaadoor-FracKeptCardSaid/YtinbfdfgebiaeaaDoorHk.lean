/- Sum of package hash. -/
import Derived.Test.YtinbfdfgebiaeaaDoorHj
set_option linter.unusedVariables false
set_option linter.unusedSimpArgs false
namespace Go.Proofs.YtinbfdfgebiaeaaDoor
open Go.RowKit Go.Shelf
attribute [local go_sem] Oper.semAt_some

def sN : List Unit → Nat
  | [] => 0
  | _ => mixN 0 fracW
theorem groups_stops (n Bn : Nat) (w : World) (hn : 1 ≤ n) (hB : Bn < w.heap.size) (hc : w.cell? ⟨Bn, 0, none⟩ = some (.string fracS)) :
    SeqStopsK Fence.wide n Tryd.prog 43 #[.pointer (some ⟨Bn, 0, none⟩)] (fun _ : Unit => #[Value.int .u64 1667330662]) (fun W W' => W'.heap[Bn]? = W.heap[Bn]?) (fun ys => ys = [()]) (fun pre => pre <+: [()]) 1 w := fun l J Jx W hW _ _ hY h0 =>
  groups1_in n hn l Bn J Jx hY W ((hW.cell (p := ⟨Bn, 0, none⟩) hB).trans hc) h0
structure SumS (w : World) (b D : Nat) (x d : Int) (W : World) (s : Nat) : Prop where
  below : Below w.heap.size w W
  c : W.cell? ⟨w.heap.size, 0, none⟩ = some (.int .u64 (s : Int))
  f : W.frozen? ⟨w.heap.size, 0, none⟩ = false
  x0 : W.cell? ⟨b, 0, none⟩ = some (.int .i64 x)
  x1 : W.cell? ⟨b, 1, none⟩ = some (.int .i64 d)
  K : W.heap[D]? = some (.deferred (some []))
theorem SumS.set {w : World} {b D : Nat} {x d : Int} {W : World} {s : Nat} (h : SumS w b D x d W s) (hb : b < w.heap.size) (t : Nat) : SumS w b D x d (W.setCell ⟨w.heap.size, 0, none⟩ (.int .u64 (t : Int))) t :=
  ⟨h.below.setCell (p := ⟨w.heap.size, 0, none⟩) (Nat.le_refl _) _, World.cell?_setCell_same' _ _ _ (by rw [h.c]; rfl), by rw [World.frozen?_setCell]; exact h.f,
   (World.cell?_of_block (a := ⟨b, 0, none⟩) (Below.heap_setCell _ _ _ _ (by simp only; omega))).trans h.x0, (World.cell?_of_block (a := ⟨b, 1, none⟩) (Below.heap_setCell _ _ _ _ (by simp only; omega))).trans h.x1,
   (KeepsOthers.setCell W ⟨w.heap.size, 0, none⟩ _).same D _ h.K rfl⟩
theorem kpT (B : Nat) {A B' C : World} (h1 : B'.heap[B]? = A.heap[B]?) (h2 : C.heap[B]? = B'.heap[B]?) : C.heap[B]? = A.heap[B]? := h2.trans h1
theorem kpB {B : Nat} {w : World} (hB : B < w.heap.size) (W : World) (l : Nat) (o o' : Obj) (h1 : w.heap.size ≤ l) (h2 : W.heap[l]? = some o) (h3 : o.isCells = false) (h4 : o.isWalk = false) : (W.putObj l o').heap[B]? = W.heap[B]? := by
  have hl : l < W.heap.size := by
    rcases Nat.lt_or_ge l W.heap.size with h | h
    · exact h
    · rw [Array.getElem?_eq_none h] at h2; cases h2
  exact (grownBy_putObj' W l o').block B (by omega) (by simp; omega)
set_option maxRecDepth 100000 in
set_option maxHeartbeats 4000000 in
theorem hsum_any (b : Nat) (x d : Int) (w : World) (hb : b < w.heap.size) (hx : w.cell? ⟨b, 0, none⟩ = some (.int .i64 x)) (hd : w.cell? ⟨b, 1, none⟩ = some (.int .i64 d)) :
    Calls Tryd.prog 14 #[.string fracS, .slice (some ⟨b, 0, none⟩) 2 2] w fun e W' => e = .returned (.int .u64 (sumH x d : Nat)) ∧ Below w.heap.size w W' := by
  have hn : 3 ≤ 5 := by omega
  refine (callsIn_wide (n := 5)).1 (callsIn_of_wp_marks Tryd.func14 rfl trivial ?_ rfl)
  simp only [Tryd.ntmps14, List.size_toArray, List.length_cons, List.length_nil, Nat.reduceAdd, Nat.reduceSub, Array.replicate_succ, Array.replicate_zero, List.push_toArray, List.append_toArray, List.nil_append, List.cons_append]
  gi_wp2_with (refine ⟨trivial, ?_⟩; gi_at_call 27; refine (callsIn_wide.2 (groups_any fracS _)).mono ?_; rintro e w' ⟨rfl, rfl⟩)
  have hs : Blk ((w.alloc (.cells #[.int .u64 0] 41)).alloc (.cells #[.string fracS] 9)) w.heap.size 41 #[.int .u64 0] := (Blk.new _ _ _).alloc _
  have hg : Blk ((w.alloc (.cells #[.int .u64 0] 41)).alloc (.cells #[.string fracS] 9)) (w.heap.size + 1) 9 #[.string fracS] := Blk.newAt _ _ (by simp)
  have hB0 := bel2 w (.cells #[.int .u64 0] 41) (.cells #[.string fracS] 9)
  have hz : ((w.alloc (.cells #[.int .u64 0] 41)).alloc (.cells #[.string fracS] 9)).heap.size = w.heap.size + 2 := by simp
  generalize ((w.alloc (.cells #[.int .u64 0] 41)).alloc (.cells #[.string fracS] 9)) = W0 at *
  refine wpIn_rangeFunc_ownF (F := Fence.wide) (Kp := fun W W' => W'.heap[w.heap.size + 1]? = W.heap[w.heap.size + 1]?) rfl (by omega) (gf := 43) (lb := #[.pointer (some ⟨w.heap.size + 1, 0, none⟩)]) rfl trivial (enters_of Tryd.func43 (by kernel_rfl) rfl)
    (groups_stops 4 (w.heap.size + 1) W0 (by omega) (by omega) hg.c1) (fun h1 h2 => kpT _ h1 h2) (fun W l o o' h1 h2 h3 h4 => kpB (w := W0) (by omega) W l o o' h1 h2 h3 h4) (Below.refl _ _) (fun _ => rfl)
    (fun pre W => (W.cell? ⟨w.heap.size, 0, none⟩ = some (.int .u64 (sN pre : Nat)) ∧ W.frozen? ⟨w.heap.size, 0, none⟩ = false) ∧ Below w.heap.size w W)
    (fun _ _ _ => False)
    (OwnFrom.and (Own.from (fun s A B row hs hg hr => ⟨cell_kept hs.1 hg hr, (frozen_kept hs.1 hg hr).trans hs.2⟩) _) (ownFrom_below (by omega) (by omega)))
    (fun _ _ _ _ _ hs _ _ => hs)
    ⟨⟨hs.c1, hs.frozen 0⟩, hB0⟩
    (fun _ => { tmps := #[.string fracS, .slice (some ⟨b, 0, none⟩) 2 2, undef, undef, .int .u64 0, .pointer (some ⟨w.heap.size, 0, none⟩), .int .u64 1667330662, undef, undef, .string fracS, .func (.func 43) #[] #[.pointer (some ⟨w.heap.size + 1, 0, none⟩)], .int .u64 1667330662, undef, undef, undef, undef, undef, undef, undef, undef, undef, undef, undef, undef, undef, undef, undef, undef, undef, undef, undef, undef, undef, undef, undef, undef, undef, undef], defers := [] }) ?assign ?body ?done ?stop
  case assign =>
    intro l x W K hK
    gi_wp2
    exact hK
  case body =>
    rintro l pre x W ⟨⟨hc, hf⟩, hB⟩ hl
    obtain rfl : pre = [] := List.eq_nil_of_length_eq_zero (by omega)
    simp only [sN] at hc
    gi_wp2_with (refine ⟨trivial, ?_⟩; gi_at_call 28; refine (CallsIn.inRound l (callsIn_wide.2 (mix_any 0 fracW _ (by decide) (by decide)))).mono ?_; rintro e w' ⟨rfl, rfl⟩)
    exact ⟨KeepsOthers.setCell _ _ _, Below.heap_setCell _ _ _ _ (by simp), ⟨World.cell?_setCell_same' _ _ _ (by rw [hc]; rfl), by rw [World.frozen?_setCell]; exact hf⟩, hB.setCell (p := ⟨w.heap.size, 0, none⟩) (Nat.le_refl _) _⟩
  case done =>
    rintro D ys W hD rfl ⟨⟨hc, hf⟩, hB⟩ hK
    simp only [sN] at hc
    have hx2 : W.cell? ⟨b, 0, none⟩ = some (.int .i64 x) := (hB.cell (p := ⟨b, 0, none⟩) hb).trans hx
    have hd2 : W.cell? ⟨b, 1, none⟩ = some (.int .i64 d) := (hB.cell (p := ⟨b, 1, none⟩) hb).trans hd
    have HS := Box.mk (SumS.mk hB hc hf hx2 hd2 hK)
    clear hc hf hB hK hx2 hd2
    obtain ⟨z, Hz⟩ : ∃ z, Box (sumH x d = z) := ⟨_, ⟨rfl⟩⟩
    have HZZ := Hz.out
    unfold sumH at HZZ
    obtain ⟨s0, Hs0⟩ : ∃ s, Box (mixN 0 fracW = s) := ⟨_, ⟨rfl⟩⟩
    have Bs0 : Box (s0 < two64) := ⟨by rw [← Hs0.out]; exact mix_lt _ _⟩
    rw [Hs0.out] at HS HZZ
    obtain ⟨y3, Hy3⟩ : ∃ s, Box (wd x = s) := ⟨_, ⟨rfl⟩⟩
    have BY3 : Box (y3 < two64) := ⟨by rw [← Hy3.out]; exact wd_lt _⟩
    obtain ⟨y4, Hy4⟩ : ∃ s, Box (wd d = s) := ⟨_, ⟨rfl⟩⟩
    have BY4 : Box (y4 < two64) := ⟨by rw [← Hy4.out]; exact wd_lt _⟩
    rw [Hy3.out, Hy4.out] at HZZ
    have e3 : IntKind.u64.wrap x = (y3 : Int) := by rw [← Hy3.out, IntKind.wrap_u64]; unfold wd; omega
    have e4 : IntKind.u64.wrap d = (y4 : Int) := by rw [← Hy4.out, IntKind.wrap_u64]; unfold wd; omega
    obtain ⟨s1, Hs1⟩ : ∃ s, Box (mixN s0 4 = s) := ⟨_, ⟨rfl⟩⟩
    have Bs1 : Box (s1 < two64) := ⟨by rw [← Hs1.out]; exact mix_lt _ _⟩
    rw [Hs1.out] at HZZ
    obtain ⟨s2, Hs2⟩ : ∃ s, Box (mixN s1 2 = s) := ⟨_, ⟨rfl⟩⟩
    have Bs2 : Box (s2 < two64) := ⟨by rw [← Hs2.out]; exact mix_lt _ _⟩
    rw [Hs2.out] at HZZ
    obtain ⟨s3, Hs3⟩ : ∃ s, Box (mixN s2 y3 = s) := ⟨_, ⟨rfl⟩⟩
    have Bs3 : Box (s3 < two64) := ⟨by rw [← Hs3.out]; exact mix_lt _ _⟩
    rw [Hs3.out] at HZZ
    obtain ⟨s4, Hs4⟩ : ∃ s, Box (mixN s3 y4 = s) := ⟨_, ⟨rfl⟩⟩
    have Bs4 : Box (s4 < two64) := ⟨by rw [← Hs4.out]; exact mix_lt _ _⟩
    rw [Hs4.out] at HZZ
    obtain ⟨s5, Hs5⟩ : ∃ s, Box (mixN s4 0 = s) := ⟨_, ⟨rfl⟩⟩
    have Bs5 : Box (s5 < two64) := ⟨by rw [← Hs5.out]; exact mix_lt _ _⟩
    rw [Hs5.out] at HZZ
    have C1 : Box (∀ W, CallsIn Fence.wide 4 Tryd.prog 28 #[.int .u64 (s0 : Int), .int .u64 4] W fun e w' => e = .returned (.int .u64 (s1 : Int)) ∧ w' = W) := ⟨fun W => by rw [← Hs1.out]; exact callsIn_wide.2 (mix_any s0 4 W Bs0.out (by decide))⟩
    have C2 : Box (∀ W, CallsIn Fence.wide 4 Tryd.prog 28 #[.int .u64 (s1 : Int), .int .u64 2] W fun e w' => e = .returned (.int .u64 (s2 : Int)) ∧ w' = W) := ⟨fun W => by rw [← Hs2.out]; exact callsIn_wide.2 (mix_any s1 2 W Bs1.out (by decide))⟩
    have C3 : Box (∀ W, CallsIn Fence.wide 4 Tryd.prog 28 #[.int .u64 (s2 : Int), .int .u64 (y3 : Int)] W fun e w' => e = .returned (.int .u64 (s3 : Int)) ∧ w' = W) := ⟨fun W => by rw [← Hs3.out]; exact callsIn_wide.2 (mix_any s2 y3 W Bs2.out BY3.out)⟩
    have C4 : Box (∀ W, CallsIn Fence.wide 4 Tryd.prog 28 #[.int .u64 (s3 : Int), .int .u64 (y4 : Int)] W fun e w' => e = .returned (.int .u64 (s4 : Int)) ∧ w' = W) := ⟨fun W => by rw [← Hs4.out]; exact callsIn_wide.2 (mix_any s3 y4 W Bs3.out BY4.out)⟩
    have C5 : Box (∀ W, CallsIn Fence.wide 4 Tryd.prog 28 #[.int .u64 (s4 : Int), .int .u64 0] W fun e w' => e = .returned (.int .u64 (s5 : Int)) ∧ w' = W) := ⟨fun W => by rw [← Hs5.out]; exact callsIn_wide.2 (mix_any s4 0 W Bs4.out (by decide))⟩
    have HZ5 : Box (sumH x d = s5) := ⟨by rw [Hz.out, ← HZZ]⟩
    clear HZZ
    have hc := HS.out.c
    have hf := HS.out.f
    gi_wp2_with (first
      | (refine ⟨trivial, ?_⟩; gi_at_call 28; (with_reducible refine (C1.out _).mono ?_); rintro e w7 ⟨rfl, hw⟩; subst hw)
      | (refine ⟨trivial, ?_⟩; gi_at_call 28; (with_reducible refine (C2.out _).mono ?_); rintro e w7 ⟨rfl, hw⟩; subst hw))
    rename World => W7
    have HS2 := Box.mk ((HS.out.set hb s1).set hb s2)
    clear HS hc hf
    generalize (W7.setCell ⟨w.heap.size, 0, none⟩ (.int .u64 (s1 : Int))).setCell ⟨w.heap.size, 0, none⟩ (.int .u64 (s2 : Int)) = W8 at *
    gi_loopw [27] (fun v wr => (v = .int .i64 0 ∧ SumS w b D x d wr s2) ∨ (v = .int .i64 1 ∧ SumS w b D x d wr s3) ∨ (v = .int .i64 2 ∧ SumS w b D x d wr s4)) (fun v _ => (2 - intOf v).toNat)
    case atStart => exact .inl ⟨rfl, HS2.out⟩
    case round =>
      clear HS2
      rcases hrel with ⟨rfl, hS⟩ | ⟨rfl, hS⟩ | ⟨rfl, hS⟩
      · have HS := Box.mk hS
        have hc := HS.out.c
        have hf := HS.out.f
        have hx0 := HS.out.x0
        clear hS
        gi_wp2_with (refine ⟨trivial, ?_⟩; gi_at_call 28; (with_reducible refine (C3.out _).mono ?_); rintro e w7 ⟨rfl, hw⟩; subst hw)
        exact ⟨.inr (.inl ⟨rfl, HS.out.set hb s3⟩), by decide⟩
      · have HS := Box.mk hS
        have hc := HS.out.c
        have hf := HS.out.f
        have hx1 := HS.out.x1
        clear hS
        gi_wp2_with (refine ⟨trivial, ?_⟩; gi_at_call 28; (with_reducible refine (C4.out _).mono ?_); rintro e w7 ⟨rfl, hw⟩; subst hw)
        exact ⟨.inr (.inr ⟨rfl, HS.out.set hb s4⟩), by decide⟩
      · have HS := Box.mk hS
        have hc := HS.out.c
        clear hS
        gi_wp2_with (refine ⟨trivial, ?_⟩; gi_at_call 28; (with_reducible refine (C5.out _).mono ?_); rintro e w7 ⟨rfl, hw⟩; subst hw)
        refine ⟨by simp, .inl ⟨_, _, rfl, run_takeDeferred HS.out.K, ?_⟩⟩
        exact ⟨_, results_tmp rfl _ _ _, by rw [HZ5.out]; rfl, HS.out.below.trans (belowK_b (w := w) (Nat.le_refl _) _ D _ _ (by omega) HS.out.K rfl rfl)⟩
  case stop =>
    rintro D c pre W _ _ h _
    exact h.elim
end Go.Proofs.YtinbfdfgebiaeaaDoor
