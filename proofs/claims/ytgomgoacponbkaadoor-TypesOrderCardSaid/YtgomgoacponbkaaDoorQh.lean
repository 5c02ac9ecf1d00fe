/- The generators of matchers and of labels. -/
import Derived.Test.YtgomgoacponbkaaDoorQg
import Derived.IntWalk
set_option linter.unusedVariables false
set_option linter.unusedSimpArgs false
namespace Go.Proofs.YtgomgoacponbkaaDoor
open Go.RowKit

def namesL : List ByteArray := [⟨#[97]⟩, ⟨#[97, 98]⟩, ⟨#[98]⟩, ⟨#[106, 111, 98]⟩, ⟨#[120, 95, 49]⟩, ⟨#[122, 111, 110, 101]⟩]
def valuesL : List ByteArray := [⟨#[97]⟩, ⟨#[97, 98]⟩, ⟨#[98]⟩, ⟨#[120, 49]⟩, ⟨#[126, 33]⟩, ⟨#[48]⟩]
def valuesL8 : List ByteArray := valuesL ++ [⟨#[]⟩, ⟨#[120]⟩]
theorem strInfo : (Tryd.prog.info? 9).map (fun i => (i.zero, i.size, i.bytes)) = some (some (.string ⟨#[]⟩), 1, 16) := by kernel_rfl
theorem labInfo : (Tryd.prog.info? 78).map (fun i => (i.zero, i.size, i.bytes)) = some (some (.agg #[.string ⟨#[]⟩, .string ⟨#[]⟩]), 2, 32) := by kernel_rfl

/-- a matcher made of the lists -/
def GoodMat (m : Mat) : Prop := m.1 ∈ namesL ∧ (0 ≤ m.2.1 ∧ m.2.1 < 3) ∧ m.2.2 ∈ valuesL8
theorem namesL_ok : ∀ x ∈ namesL, nameB x = true ∧ x.size ≤ 16 := by
  intro x hx
  simp [namesL] at hx
  rcases hx with rfl | rfl | rfl | rfl | rfl | rfl <;> exact ⟨by kernel_rfl, by decide⟩
theorem valuesL8_ok : ∀ x ∈ valuesL8, valueB x = true ∧ x.size ≤ 16 := by
  intro x hx
  simp [valuesL8, valuesL] at hx
  rcases hx with rfl | rfl | rfl | rfl | rfl | rfl | rfl | rfl <;> exact ⟨by kernel_rfl, by decide⟩
theorem GoodMat.valid {m : Mat} (h : GoodMat m) : vmatB m = true := by
  obtain ⟨h1, ⟨h2, h3⟩, h4⟩ := h
  have a := (namesL_ok _ h1).1
  have b := (valuesL8_ok _ h4).1
  simp [vmatB, a, b]; omega
theorem good_ok {ms : List Mat} (hl : ms.length ≤ 1000) (h : ∀ m ∈ ms, GoodMat m) : MsOk ms := by
  refine ⟨hl, fun x hx => ?_⟩
  have a := (namesL_ok _ (h x hx).1).2
  have b := (valuesL8_ok _ (h x hx).2.2).2
  unfold maxLen; omega
/-- matchers are returned: few and valid -/
def RetMs (w : World) (base : Nat) (e : Ending) (w' : World) : Prop := ∃ ms, RetMats w base ms e w' ∧ ms.length ≤ 3 ∧ ∀ m ∈ ms, GoodMat m

theorem Seq.of_base {w : World} {base base' t size n : Nat} {v : Value} {xs : List Value} (h : Seq w base t size v n xs) (hb : base ≤ base') : Seq w base' t size v n xs := by
  obtain ⟨h1, A, c, hv, hn, hc, h2⟩ := h
  refine ⟨h1, A, c, hv, hn, hc, fun h0 => ?_⟩
  obtain ⟨b, off, hA, hf, hx⟩ := h2 h0
  exact ⟨b, off, hA, ⟨hf.1, hf.2.imp (fun h => Nat.lt_of_lt_of_le h hb) id⟩, hx⟩

theorem own_newAt {w : World} {k base : Nat} (cs : Array Value) (t : TypeId) (n : Nat) (xs : List Value) (h : w.heap.size = k) (hb : base ≤ k) (hs : cs.size = n) (hx : cs.toList = xs) (hn : n ≤ 1000) : (w.alloc (.cells cs t)).ownsRow base t 1 (.slice (some ⟨k, 0, none⟩) n n) n xs := by
  subst h hx
  exact ⟨by simp [hs], .inr ⟨_, _, cs, rfl, hb, heap_alloc_new w _, Nat.le_refl _, by unfold maxLen; omega, by omega, by rw [Nat.mul_one, ← hs]; exact List.take_of_length_le (by simp)⟩⟩
theorem cells2At {w : World} {k : Nat} (h : w.heap.size = k) (t : TypeId) (v0 v1 : Value) : ∀ j u, [v0, v1][j]? = some u → (w.alloc (.cells #[v0, v1] t)).cell? ((⟨k, 0, none⟩ : Addr).add j) = some u := by
  subst h
  intro j u hj
  match j, hj with
  | 0, hj => simp at hj; subst hj; simp [Addr.add]
  | 1, hj => simp at hj; subst hj; simp [Addr.add]
  | j + 2, hj => simp at hj

def MsRel (w : World) (m : Int) (nv vv v i : Value) (wr : World) : Prop :=
  ∃ (k : Nat) (ms : List Mat), (k : Int) ≤ m ∧ i = .int .i64 k ∧ ms.length = k ∧ (∀ x ∈ ms, GoodMat x) ∧ wr.ownsRow w.heap.size 84 3 v k (ms.flatMap matCells) ∧ Strs wr w.heap.size nv namesL ∧ Strs wr w.heap.size vv valuesL8 ∧ Below w.heap.size w wr

/-- element i of a slice of strings -/
theorem Strs.pick {w : World} {base n c : Nat} {A : Option Addr} {l : List ByteArray} (h : Strs w base (.slice A n c) l) (i : Int) (h0 : 0 ≤ i) (h1 : i < l.length) : ∃ b off x, A = some ⟨b, off, none⟩ ∧ Fit w base 9 b ∧ x ∈ l ∧ w.cell? ⟨b, off + i.toNat, none⟩ = some (.string x) := by
  have hk : i.toNat < l.length := by omega
  obtain ⟨h1, A', c', hv, _, _, h2⟩ := h
  cases hv
  obtain ⟨b, off, rfl, hf, hx⟩ := h2 (by omega)
  exact ⟨b, off, l[i.toNat], rfl, hf, List.getElem_mem hk, hx i.toNat _ (by rw [List.getElem?_map, List.getElem?_eq_getElem hk]; rfl)⟩
theorem fr_below {base : Nat} {T : List TypeId} {w w' : World} (f : Fr base T w w') (h : base ≤ w.heap.size) : Below base w w' := ⟨f.os, f.tape, f.output, f.size, fun k hk => f.block k (by omega) (.inl hk)⟩
theorem fit_cell {base t : Nat} {T : List TypeId} {w w' : World} {b o : Nat} {u : Value} (h : Fit w base t b) (f : Fr base T w w') (ht : t ∉ T) (hc : w.cell? ⟨b, o, none⟩ = some u) : w'.cell? ⟨b, o, none⟩ = some u := (World.cell?_of_block (a := ⟨b, o, none⟩) (h.keep f ht).2).trans hc
theorem Strs.keep {w w' : World} {base : Nat} {T : List TypeId} {v : Value} {l : List ByteArray} (h : Strs w base v l) (f : Fr base T w w') (ht : 9 ∉ T) : Strs w' base v l := Seq.keep h f ht
theorem cells3 (w : World) (t : TypeId) (v0 v1 v2 : Value) : ∀ j u, [v0, v1, v2][j]? = some u → (w.alloc (.cells #[v0, v1, v2] t)).cell? ((⟨w.heap.size, 0, none⟩ : Addr).add j) = some u := by
  intro j u hj
  match j, hj with
  | 0, hj => simp at hj; subst hj; simp [Addr.add]
  | 1, hj => simp at hj; subst hj; simp [Addr.add]
  | 2, hj => simp at hj; subst hj; simp [Addr.add]
  | j + 3, hj => simp at hj
theorem mat_one (m : Mat) : ∀ u ∈ matCells m, u.oneCell' = true := by
  intro u hu
  simp [matCells] at hu
  rcases hu with rfl | rfl | rfl <;> rfl

set_option maxRecDepth 100000 in
set_option maxHeartbeats 2000000 in
theorem matchers_any (A : Option Addr) (n c base : Nat) (l : List Int) (w : World) (h : Ints w base (.slice A n c) l) (hbase : base ≤ w.heap.size) :
    Calls Tryd.prog 77 #[.slice A n c] w (RetMs w base) := by
  obtain ⟨i0, hi, hz0, hz1, hz2⟩ := info_parts strInfo
  obtain ⟨j0, hj, hy0, hy1, hy2⟩ := info_parts matInfo
  obtain ⟨hp1, hp2⟩ := pick_bd l 0 4 (by omega)
  have HI := Lib.hid h
  have HJ := Lib.hid (And.intro hj (And.intro hy0 (And.intro hy1 hy2)))
  clear h hj hy0 hy1 hy2
  go_enter Tryd.func77, Tryd.ntmps77
  go_wp2_with (first
    | (go_at_call 44; refine (names_any _).mono ?_; rintro e w1 ⟨rfl, rfl⟩)
    | (go_at_call 45; refine (values_any _).mono ?_; rintro e w2 ⟨rfl, rfl⟩)
    | (at_builtin; refine wpList_append_lies _ rfl _ _ 35 rfl w.heap.size 9 i0 _ 1 16 Tryd.underlying35 hi hz0 hz1 hz2 rfl (by decide) (.slice (some ⟨w.heap.size + 1, 0, none⟩) 6 6) 6 (valuesL.map Value.string) rfl (by exact (own_newAt (w := w.alloc _) _ _ 6 _ (by simp) (by omega) rfl rfl (by omega)).alloc _) ⟨w.heap.size + 1 + 1, 0, none⟩ 2 2 [.string ⟨#[]⟩, .string ⟨#[120]⟩] rfl rfl (cells2At (by simp) _ _ _) (by intro u hu; simp at hu; rcases hu with rfl | rfl <;> rfl) (by decide) (by unfold maxLen; omega) (by omega) (by simp; omega) _ rfl ?_; intro g8 cap8 w4 hown4 hg4 hat4 hlt4))
  have HS : Hid (Strs w4 w.heap.size (.slice (some ⟨w.heap.size, 0, none⟩) 6 6) namesL ∧ Strs w4 w.heap.size (.slice (some ⟨g8, 0, none⟩) (6 + 2) cap8) valuesL8 ∧ Below w.heap.size w w4) := by
    have hb3 : Below w.heap.size w (((w.alloc (.cells #[.string ⟨#[97]⟩, .string ⟨#[97, 98]⟩, .string ⟨#[98]⟩, .string ⟨#[106, 111, 98]⟩, .string ⟨#[120, 95, 49]⟩, .string ⟨#[122, 111, 110, 101]⟩] 9)).alloc (.cells #[.string ⟨#[97]⟩, .string ⟨#[97, 98]⟩, .string ⟨#[98]⟩, .string ⟨#[120, 49]⟩, .string ⟨#[126, 33]⟩, .string ⟨#[48]⟩] 9)).alloc (.cells #[.string ⟨#[]⟩, .string ⟨#[120]⟩] 9)) := ((bel1 _ _).alloc (by simp) _).alloc (by simp; omega) _
    have hn := (own_newAt (w := w) (base := w.heap.size) #[.string ⟨#[97]⟩, .string ⟨#[97, 98]⟩, .string ⟨#[98]⟩, .string ⟨#[106, 111, 98]⟩, .string ⟨#[120, 95, 49]⟩, .string ⟨#[122, 111, 110, 101]⟩] 9 6 (namesL.map Value.string) rfl (Nat.le_refl _) rfl rfl (by omega))
    refine ⟨Seq.of_own (((hn.alloc _).alloc _).kept hg4 (.inr ?_)), Seq.of_own hown4, hb3.grown hg4 (by simp; omega) (fun k hk => by simp [Value.ownBlock] at hk; omega)⟩
    simp [Value.ownBlock]
  clear hown4 hg4 hat4
  go_loopw [5, 6] (fun v i wr => MsRel w (pickZ l 0 4) (.slice (some ⟨w.heap.size, 0, none⟩) 6 6) (.slice (some ⟨g8, 0, none⟩) (6 + 2) cap8) v i wr) (fun _ i _ => (pickZ l 0 4 - intOf i).toNat)
  case atStart => exact ⟨0, [], by omega, rfl, rfl, fun x hx => by simp at hx, World.ownsRow_nil _ _ _ _, HS.out.1, HS.out.2.1, HS.out.2.2⟩
  case round =>
    obtain ⟨k, ms, hk, rfl, hlen, hgood, hown, hsn, hsv, hbw⟩ := hrel
    have hsz := hbw.size
    clear HS
    have HIr := Lib.hid (HI.out.below hbw)
    by_cases hlt : (k : Int) < pickZ l 0 4
    · obtain ⟨q1, q2⟩ := pick_bd l (3 * (k : Int) + 1) 6 (by omega)
      obtain ⟨q3, q4⟩ := pick_bd l (3 * (k : Int) + 2) 3 (by omega)
      obtain ⟨q5, q6⟩ := pick_bd l (3 * (k : Int) + 3) 8 (by omega)
      obtain ⟨b1, off1, x1, hA1, hb1, hx1, hc1⟩ := hsn.pick _ q1 (by simp [namesL]; omega)
      obtain ⟨b2, off2, x2, hA2, hb2, hx2, hc2⟩ := hsv.pick _ q5 (by simp [valuesL8, valuesL]; omega)
      simp only [Option.some.injEq, Addr.mk.injEq, and_true] at hA1 hA2
      obtain ⟨rfl, rfl⟩ := hA1
      obtain ⟨rfl, rfl⟩ := hA2
      simp only [Nat.zero_add] at hc1 hc2
      have HFT := Lib.hid (And.intro hb1 hb2)
      clear hb1 hb2
      have HG : Hid (GoodMat (x1, pickZ l (3 * (k : Int) + 2) 3, x2)) := ⟨hx1, ⟨q3, q4⟩, hx2⟩
      have HR := Lib.hid (And.intro hlen (And.intro hgood (And.intro hown (And.intro hsn (And.intro hsv hbw)))))
      clear hlen hgood hown hsn hsv hbw hx1 hx2
      have t1 : IntKind.i64.wrap (3 * (k : Int)) = 3 * (k : Int) := by rw [IntWalk.i64_in _ (by omega)]
      have t2 : IntKind.i64.wrap (3 * (k : Int) + 1) = 3 * (k : Int) + 1 := by rw [IntWalk.i64_in _ (by omega)]
      have t3 : IntKind.i64.wrap (3 * (k : Int) + 2) = 3 * (k : Int) + 2 := by rw [IntWalk.i64_in _ (by omega)]
      have t4 : IntKind.i64.wrap (3 * (k : Int) + 3) = 3 * (k : Int) + 3 := by rw [IntWalk.i64_in _ (by omega)]
      go_wp2_with (go_at_call 31; refine (pick_any _ _ _ base l _ _ _ HIr.out (by omega) (by omega)).mono ?_; rintro e w' ⟨rfl, rfl⟩)
      go_region_held3 (fun w' => w'.cell? ⟨w.heap.size, (pickZ l (3 * (k : Int) + 1) 6).toNat, none⟩ = some (.string x1) ∧ w'.cell? ⟨g8, (pickZ l (3 * (k : Int) + 3) 8).toNat, none⟩ = some (.string x2)) (first | go_keep | exact HK9.out)
        (first
          | (refine step_append_lies _ rfl _ _ 34 rfl w.heap.size 84 j0 _ 3 40 Tryd.underlying34 HJ.out.1 HJ.out.2.1 HJ.out.2.2.1 HJ.out.2.2.2 rfl (by decide) u5 k (ms.flatMap matCells) rfl (by exact (HR.out.2.2.1).alloc _) ⟨wr.heap.size, 0, none⟩ 1 1 (matCells (x1, pickZ l (3 * (k : Int) + 2) 3, x2)) rfl rfl (cells3 _ _ _ _ _) (mat_one _) (by decide) (by unfold maxLen; omega) (by omega) (by simp; omega) _ rfl ?_
             intro g cap w9 hown9 hg9 hat9 hlt9
             have HF9 : Hid (Fr w.heap.size [84] wr w9) := grow_fr HR.out.2.2.1 (by first | exact bel1 _ _ | exact (bel1 _ _).drew) hg9
             have HK9 : Hid (w9.cell? ⟨w.heap.size, (pickZ l (3 * (k : Int) + 1) 6).toNat, none⟩ = some (.string x1) ∧ w9.cell? ⟨g8, (pickZ l (3 * (k : Int) + 3) 8).toNat, none⟩ = some (.string x2)) := ⟨fit_cell HFT.out.1 HF9.out (by decide) hc1, fit_cell HFT.out.2 HF9.out (by decide) hc2⟩
             have HO9 := Lib.hid hown9
             clear hown9 hg9 hat9)
          | (go_at_call 31; refine (pick_any _ _ _ base l _ _ _ (by exact HIr.out) (by omega) (by omega)).mono ?_; rintro e w' ⟨rfl, rfl⟩))
      have HFIN : Hid (w9.ownsRow w.heap.size 84 3 (.slice (some ⟨g, 0, none⟩) (k + 1) cap) (k + 1) ((ms ++ [(x1, pickZ l (3 * (k : Int) + 2) 3, x2)]).flatMap matCells)) := by rw [Hid, List.flatMap_append]; simpa using HO9.out
      clear t1 t2 t3 t4 HO9
      go_wp2
      go_roundw
      case rel =>
        refine ⟨k + 1, ms ++ [(x1, pickZ l (3 * (k : Int) + 2) 3, x2)], by omega, by go_num, by simp [HR.out.1], fun x hx => ?_, HFIN.out, HR.out.2.2.2.1.keep HF9.out (by decide), HR.out.2.2.2.2.1.keep HF9.out (by decide), HR.out.2.2.2.2.2.trans (fr_below HF9.out hsz)⟩
        rcases List.mem_append.1 hx with hx | hx
        · exact HR.out.2.1 x hx
        · simp at hx; subst hx; exact HG.out
      case measure => simp [intOf]; omega
    · obtain ⟨A2, c2, hv2⟩ := own_form hown
      have HV := Lib.hid hv2
      clear hv2
      go_wp2_with (go_at_call 31; refine (pick_any _ _ _ base l _ _ _ HIr.out (by omega) (by omega)).mono ?_; rintro e w' ⟨rfl, rfl⟩)
      go_ret
      have hs : Mats wr base (.slice A2 k c2) ms := by
        have := Seq.of_own (base' := base) hown
        rw [HV.out] at this
        unfold Mats; rw [hlen]; exact this
      exact ⟨ms, ⟨A2, k, c2, congrArg Ending.returned HV.out, hs, hbw⟩, by omega, hgood⟩
end Go.Proofs.YtgomgoacponbkaaDoor
