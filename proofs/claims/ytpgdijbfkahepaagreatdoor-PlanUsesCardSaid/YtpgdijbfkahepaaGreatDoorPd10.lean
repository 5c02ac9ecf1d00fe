/- Contracts, packed: Qh Qi Yg Yh Qt. -/
import Derived.Test.YtpgdijbfkahepaaGreatDoorPd6
import Derived.Test.YtpgdijbfkahepaaGreatDoorPd9
import Derived.IntWalk
import Derived.Maps.AppendAt
import Derived.OwnWalk
import Derived.Laws.OwnMore
set_option linter.unusedVariables false
set_option linter.unusedSimpArgs false
namespace Go.Proofs.YtpgdijbfkahepaaGreatDoor
section
open Go.RowKit
def namesL : List ByteArray := [⟨#[97]⟩, ⟨#[97, 98]⟩, ⟨#[98]⟩, ⟨#[106, 111, 98]⟩, ⟨#[120, 95, 49]⟩, ⟨#[122, 111, 110, 101]⟩]
def valuesL : List ByteArray := [⟨#[97]⟩, ⟨#[97, 98]⟩, ⟨#[98]⟩, ⟨#[120, 49]⟩, ⟨#[126, 33]⟩, ⟨#[48]⟩]
def valuesL8 : List ByteArray := valuesL ++ [⟨#[]⟩, ⟨#[120]⟩]
theorem strInfo : (Tryz.prog.info? 9).map (fun i => (i.zero, i.size, i.bytes)) = some (some (.string ⟨#[]⟩), 1, 16) := by kernel_rfl
theorem labInfo : (Tryz.prog.info? 65).map (fun i => (i.zero, i.size, i.bytes)) = some (some (.agg #[.string ⟨#[]⟩, .string ⟨#[]⟩]), 2, 32) := by kernel_rfl
/-- a matcher made of the lists -/
def GoodMat (m : Mat) : Prop := m.1 ∈ namesL ∧ (0 ≤ m.2.1 ∧ m.2.1 < 3) ∧ m.2.2 ∈ valuesL8
theorem namesL_ok : ∀ x ∈ namesL, nameB x = true ∧ x.size ≤ 16 := by
 intro x hx
 simp [namesL] at hx
 rcases hx with rfl | rfl | rfl | rfl | rfl | rfl <;> exact ⟨by kernel_rfl, by decide⟩
theorem valuesL8_ok : ∀ x ∈ valuesL8, valueB x = true ∧ x.size ≤ 16 := by
 intro x hx
 simp [valuesL8, valuesL] at hx
 rcases hx with rfl | rfl | rfl | rfl | rfl | rfl | rfl | rfl <;> exact ⟨by kernel_rfl, by decide⟩
theorem GoodMat.valid {m : Mat} (h : GoodMat m) : vmatB m = true := by
 obtain ⟨h1, ⟨h2, h3⟩, h4⟩ := h
 have a := (namesL_ok _ h1).1
 have b := (valuesL8_ok _ h4).1
 simp [vmatB, a, b]; omega
theorem good_ok {ms : List Mat} (hl : ms.length ≤ 1000) (h : ∀ m ∈ ms, GoodMat m) : MsOk ms := by
 refine ⟨hl, fun x hx => ?_⟩
 have a := (namesL_ok _ (h x hx).1).2
 have b := (valuesL8_ok _ (h x hx).2.2).2
 unfold maxLen; omega
theorem own_newAt {w : World} {k base : Nat} (cs : Array Value) (t : TypeId) (n : Nat) (xs : List Value) (h : w.heap.size = k) (hb : base ≤ k) (hs : cs.size = n) (hx : cs.toList = xs) (hn : n ≤ 1000) : (w.alloc (.cells cs t)).ownsRow base t 1 (.slice (some ⟨k, 0, none⟩) n n) n xs := by
 subst h hx
 exact ⟨by simp [hs], .inr ⟨_, _, cs, rfl, hb, heap_alloc_new w _, Nat.le_refl _, by unfold maxLen; omega, by omega, by rw [Nat.mul_one, ← hs]; exact List.take_of_length_le (by simp)⟩⟩
theorem cells2At {w : World} {k : Nat} (h : w.heap.size = k) (t : TypeId) (v0 v1 : Value) : ∀ j u, [v0, v1][j]? = some u → (w.alloc (.cells #[v0, v1] t)).cell? ((⟨k, 0, none⟩ : Addr).add j) = some u := by
 subst h
 intro j u hj
 match j, hj with
 | 0, hj => simp at hj; subst hj; simp [Addr.add]
 | 1, hj => simp at hj; subst hj; simp [Addr.add]
 | j + 2, hj => simp at hj
def MsRel (w : World) (m : Int) (nv vv v i : Value) (wr : World) : Prop :=
 ∃ (k : Nat) (ms : List Mat), (k : Int) ≤ m ∧ i = .int .i64 k ∧ ms.length = k ∧ (∀ x ∈ ms, GoodMat x) ∧ wr.ownsRow w.heap.size 75 3 v k (ms.flatMap matCells) ∧ Strs wr w.heap.size nv namesL ∧ Strs wr w.heap.size vv valuesL8 ∧ Below w.heap.size w wr
/-- element i of a slice of strings -/
theorem Strs.pick {w : World} {base n c : Nat} {A : Option Addr} {l : List ByteArray} (h : Strs w base (.slice A n c) l) (i : Int) (h0 : 0 ≤ i) (h1 : i < l.length) : ∃ b off x, A = some ⟨b, off, none⟩ ∧ Fit w base 9 b ∧ x ∈ l ∧ w.cell? ⟨b, off + i.toNat, none⟩ = some (.string x) := by
 have hk : i.toNat < l.length := by omega
 obtain ⟨h1, A', c', hv, _, _, h2⟩ := h
 cases hv
 obtain ⟨b, off, rfl, hf, hx⟩ := h2 (by omega)
 exact ⟨b, off, l[i.toNat], rfl, hf, List.getElem_mem hk, hx i.toNat _ (by rw [List.getElem?_map, List.getElem?_eq_getElem hk]; rfl)⟩
theorem fr_below {base : Nat} {T : List TypeId} {w w' : World} (f : Fr base T w w') (h : base ≤ w.heap.size) : Below base w w' := ⟨f.os, f.tape, f.output, f.size, fun k hk => f.block k (by omega) (.inl hk)⟩
theorem fit_cell {base t : Nat} {T : List TypeId} {w w' : World} {b o : Nat} {u : Value} (h : Fit w base t b) (f : Fr base T w w') (ht : t ∉ T) (hc : w.cell? ⟨b, o, none⟩ = some u) : w'.cell? ⟨b, o, none⟩ = some u := (World.cell?_of_block (a := ⟨b, o, none⟩) (h.keep f ht).2).trans hc
theorem Strs.keep {w w' : World} {base : Nat} {T : List TypeId} {v : Value} {l : List ByteArray} (h : Strs w base v l) (f : Fr base T w w') (ht : 9 ∉ T) : Strs w' base v l := Seq.keep h f ht
theorem cells3 (w : World) (t : TypeId) (v0 v1 v2 : Value) : ∀ j u, [v0, v1, v2][j]? = some u → (w.alloc (.cells #[v0, v1, v2] t)).cell? ((⟨w.heap.size, 0, none⟩ : Addr).add j) = some u := by
 intro j u hj
 match j, hj with
 | 0, hj => simp at hj; subst hj; simp [Addr.add]
 | 1, hj => simp at hj; subst hj; simp [Addr.add]
 | 2, hj => simp at hj; subst hj; simp [Addr.add]
 | j + 3, hj => simp at hj
theorem mat_one (m : Mat) : ∀ u ∈ matCells m, u.oneCell' = true := by
 intro u hu
 simp [matCells] at hu
 rcases hu with rfl | rfl | rfl <;> rfl
end
section
open Go.RowKit
def GoodLab (x : Lab) : Prop := x.1 ∈ namesL ∧ x.2 ∈ valuesL
/-- labels are returned -/
def RetLs (w : World) (base : Nat) (e : Ending) (w' : World) : Prop := ∃ ls A n c, e = .returned (.slice A n c) ∧ Labs w' base (.slice A n c) ls ∧ Below w.heap.size w w' ∧ ls.length ≤ 6 ∧ ∀ x ∈ ls, GoodLab x
def LsRel (w : World) (nv vv z v i : Value) (wr : World) : Prop :=
 ∃ (k : Nat) (ls : List Lab) (q : Int), k ≤ 6 ∧ i = .int .i64 k ∧ z = .int .i64 q ∧ 0 ≤ q ∧ q < 64 ∧ ls.length ≤ k ∧ (∀ x ∈ ls, GoodLab x) ∧ wr.ownsRow w.heap.size 65 2 v ls.length (ls.flatMap labCells) ∧ Strs wr w.heap.size nv namesL ∧ Strs wr w.heap.size vv valuesL ∧ Below w.heap.size w wr
theorem lab_one (m : Lab) : ∀ u ∈ labCells m, u.oneCell' = true := by
 intro u hu
 simp [labCells] at hu
 rcases hu with rfl | rfl <;> rfl
set_option maxRecDepth 100000 in
set_option maxHeartbeats 2000000 in
theorem set_any (A : Option Addr) (n c base : Nat) (l : List Int) (w : World) (h : Ints w base (.slice A n c) l) (hbase : base ≤ w.heap.size) :
    Calls Tryz.prog 13 #[.slice A n c] w (RetLs w base) := by
  obtain ⟨j0, hj, hy0, hy1, hy2⟩ := info_parts labInfo
  obtain ⟨hp1, hp2⟩ := pick_bd l 0 64 (by omega)
  have HI := Lib.hid h
  have HJ := Lib.hid (And.intro hj (And.intro hy0 (And.intro hy1 hy2)))
  clear h hj hy0 hy1 hy2
  have HS : Hid (Strs ((w.alloc (.cells #[.string ⟨#[97]⟩, .string ⟨#[97, 98]⟩, .string ⟨#[98]⟩, .string ⟨#[106, 111, 98]⟩, .string ⟨#[120, 95, 49]⟩, .string ⟨#[122, 111, 110, 101]⟩] 9)).alloc (.cells #[.string ⟨#[97]⟩, .string ⟨#[97, 98]⟩, .string ⟨#[98]⟩, .string ⟨#[120, 49]⟩, .string ⟨#[126, 33]⟩, .string ⟨#[48]⟩] 9)) w.heap.size (.slice (some ⟨w.heap.size, 0, none⟩) 6 6) namesL ∧ Strs ((w.alloc (.cells #[.string ⟨#[97]⟩, .string ⟨#[97, 98]⟩, .string ⟨#[98]⟩, .string ⟨#[106, 111, 98]⟩, .string ⟨#[120, 95, 49]⟩, .string ⟨#[122, 111, 110, 101]⟩] 9)).alloc (.cells #[.string ⟨#[97]⟩, .string ⟨#[97, 98]⟩, .string ⟨#[98]⟩, .string ⟨#[120, 49]⟩, .string ⟨#[126, 33]⟩, .string ⟨#[48]⟩] 9)) w.heap.size (.slice (some ⟨w.heap.size + 1, 0, none⟩) 6 6) valuesL) := by
    refine ⟨(Strs.new w _ namesL _ rfl (by decide)).below (bel1 _ _), ?_⟩
    have := Strs.new (w.alloc (.cells #[.string ⟨#[97]⟩, .string ⟨#[97, 98]⟩, .string ⟨#[98]⟩, .string ⟨#[106, 111, 98]⟩, .string ⟨#[120, 95, 49]⟩, .string ⟨#[122, 111, 110, 101]⟩] 9)) w.heap.size valuesL #[.string ⟨#[97]⟩, .string ⟨#[97, 98]⟩, .string ⟨#[98]⟩, .string ⟨#[120, 49]⟩, .string ⟨#[126, 33]⟩, .string ⟨#[48]⟩] rfl (by decide)
    rw [show (w.alloc (.cells #[.string ⟨#[97]⟩, .string ⟨#[97, 98]⟩, .string ⟨#[98]⟩, .string ⟨#[106, 111, 98]⟩, .string ⟨#[120, 95, 49]⟩, .string ⟨#[122, 111, 110, 101]⟩] 9)).heap.size = w.heap.size + 1 by simp] at this
    exact this
  go_enter Tryz.func13, Tryz.ntmps13
  go_wp2_with (first
    | (go_at_call 26; refine (names_any _).mono ?_; rintro e w1 ⟨rfl, rfl⟩)
    | (go_at_call 27; refine (values_any _).mono ?_; rintro e w2 ⟨rfl, rfl⟩)
    | (go_at_call 12; refine (pick_any _ _ _ base l _ _ _ (by exact HI.out.below (bel2 _ _ _)) (by omega) (by omega)).mono ?_; rintro e w' ⟨rfl, rfl⟩))
  go_loopw [5, 6, 7] (fun z v i wr => LsRel w (.slice (some ⟨w.heap.size, 0, none⟩) 6 6) (.slice (some ⟨w.heap.size + 1, 0, none⟩) 6 6) z v i wr) (fun _ _ i _ => 6 - (intOf i).toNat)
  case atStart => exact ⟨0, [], _, by omega, rfl, rfl, hp1, hp2, by simp, fun x hx => by simp at hx, World.ownsRow_nil _ _ _ _, HS.out.1, HS.out.2, bel2 _ _ _⟩
  case round =>
    obtain ⟨k, ls, q, hk, rfl, rfl, hq1, hq2, hlen, hgood, hown, hsn, hsv, hbw⟩ := hrel
    have hsz := hbw.size
    clear HS
    have HIr := Lib.hid (HI.out.below hbw)
    by_cases hlt : k < 6
    · by_cases hodd : (q % 2 == 1) = true
      · obtain ⟨q5, q6⟩ := pick_bd l ((k : Int) + 1) 6 (by omega)
        obtain ⟨b1, off1, x1, hA1, hb1, hx1, hc1⟩ := hsn.pick (k : Int) (by omega) (by simp [namesL]; omega)
        obtain ⟨b2, off2, x2, hA2, hb2, hx2, hc2⟩ := hsv.pick _ q5 (by simp [valuesL]; omega)
        simp only [Option.some.injEq, Addr.mk.injEq, and_true] at hA1 hA2
        obtain ⟨rfl, rfl⟩ := hA1
        obtain ⟨rfl, rfl⟩ := hA2
        simp only [Nat.zero_add, Int.toNat_natCast] at hc1 hc2
        have HG : Hid (GoodLab (x1, x2)) := ⟨hx1, hx2⟩
        have HR := Lib.hid (And.intro hgood (And.intro hown (And.intro hsn (And.intro hsv hbw))))
        have HFT := Lib.hid (And.intro hb1 hb2)
        clear hgood hown hsn hsv hbw hx1 hx2 hb1 hb2
        have t2 : IntKind.i64.wrap ((k : Int) + 1) = (k : Int) + 1 := by rw [IntWalk.i64_in _ (by omega)]
        have t5 : (k : Int) < 6 := by omega
        have t6 : ((k : Int)).toNat = k := by omega
        go_wp2
        go_region_held3 (fun w' => w'.cell? ⟨w.heap.size, k, none⟩ = some (.string x1) ∧ w'.cell? ⟨w.heap.size + 1, (pickZ l ((k : Int) + 1) 6).toNat, none⟩ = some (.string x2)) (first | go_keep | exact HK9.out)
          (first
            | (refine step_append_lies _ rfl _ _ 46 rfl w.heap.size 65 j0 _ 2 32 Tryz.underlying46 HJ.out.1 HJ.out.2.1 HJ.out.2.2.1 HJ.out.2.2.2 rfl (by decide) u6 ls.length (ls.flatMap labCells) rfl (by exact (HR.out.2.1).alloc _) ⟨wr.heap.size, 0, none⟩ 1 1 (labCells (x1, x2)) rfl rfl (cells2At rfl _ _ _) (lab_one _) (by decide) (by unfold maxLen; omega) (by omega) (by simp; omega) _ rfl ?_
               intro g cap w9 hown9 hg9 hat9 hlt9
               have HF9 : Hid (Fr w.heap.size [65] wr w9) := grow_fr HR.out.2.1 (by first | exact bel1 _ _ | exact (bel1 _ _).drew) hg9
               have HK9 : Hid (w9.cell? ⟨w.heap.size, k, none⟩ = some (.string x1) ∧ w9.cell? ⟨w.heap.size + 1, (pickZ l ((k : Int) + 1) 6).toNat, none⟩ = some (.string x2)) := ⟨fit_cell HFT.out.1 HF9.out (by decide) hc1, fit_cell HFT.out.2 HF9.out (by decide) hc2⟩
               have HO9 := Lib.hid hown9
               clear hown9 hg9 hat9)
            | (go_at_call 12; refine (pick_any _ _ _ base l _ _ _ (by exact HIr.out) (by omega) (by omega)).mono ?_; rintro e w' ⟨rfl, rfl⟩))
        have HFIN : Hid (w9.ownsRow w.heap.size 65 2 (.slice (some ⟨g, 0, none⟩) (ls.length + 1) cap) (ls ++ [(x1, x2)]).length ((ls ++ [(x1, x2)]).flatMap labCells)) := by rw [Hid, List.flatMap_append]; simpa using HO9.out
        clear t2 t6 HO9
        go_wp2
        go_roundw
        case rel =>
          refine ⟨k + 1, ls ++ [(x1, x2)], _, by omega, by go_num, rfl, by omega, by omega, by simp; omega, fun x hx => ?_, HFIN.out, HR.out.2.2.1.keep HF9.out (by decide), HR.out.2.2.2.1.keep HF9.out (by decide), HR.out.2.2.2.2.trans (fr_below HF9.out hsz)⟩
          rcases List.mem_append.1 hx with hx | hx
          · exact HR.out.1 x hx
          · simp at hx; subst hx; exact HG.out
        case measure => simp [intOf]; omega
      · have hodd' : (q % 2 == 1) = false := by simpa using hodd
        clear hodd
        have HR := Lib.hid (And.intro hgood (And.intro hown (And.intro hsn (And.intro hsv hbw))))
        clear hgood hown hsn hsv hbw
        go_wp2
        go_roundw
        case rel => exact ⟨k + 1, ls, _, by omega, by go_num, rfl, by omega, by omega, by omega, HR.out.1, HR.out.2.1, HR.out.2.2.1, HR.out.2.2.2.1, HR.out.2.2.2.2⟩
        case measure => simp [intOf]; omega
    · obtain ⟨A2, c2, hv2⟩ := own_form hown
      have HV := Lib.hid hv2
      clear hv2
      go_wp2
      go_ret
      have hs : Labs wr base (.slice A2 ls.length c2) ls := by
        have := Seq.of_own (base' := base) hown
        rw [HV.out] at this
        exact this
      exact ⟨ls, A2, ls.length, c2, congrArg Ending.returned HV.out, hs, hbw, by omega, hgood⟩
end
section
open Go.RowKit
end
section
open Go.RowKit
end
section
open Go.RowKit FracM
def numsL : List Int := [0, 1, 2, 7, 10, 1073741824]
inductive GoodN (ns : List ByteArray) (most : Int) : Nd → Nat → Prop
 | num (x : Int) (h : x ∈ numsL) : GoodN ns most ⟨0, 0, 0, 0, 0, x, 1, ⟨#[]⟩, [], []⟩ 0
 | sel (fn win off k : Int) (nm : ByteArray) (ms : List Mat) (h1 : 0 ≤ fn) (h2 : fn < 8) (hn : nm ∈ ns) (ho : 0 ≤ off) (ho2 : off ≤ most)
   (hw : (fn = 0 ∧ win = 0) ∨ (fn ≠ 0 ∧ 1 ≤ win ∧ win ≤ most)) (hk : (fn ≠ 7 ∧ k = 0) ∨ (fn = 7 ∧ 1 ≤ k ∧ k ≤ win)) (hl : ms.length ≤ 3) (hm : ∀ m ∈ ms, GoodMat m) :
   GoodN ns most ⟨1, fn, win, off, k, 0, 0, nm, ms, []⟩ 0
 | grp (fn k : Int) (bys : List ByteArray) (h1 : 0 ≤ fn) (h2 : fn < 5) (hk : (fn ≠ 4 ∧ k = 0) ∨ (fn = 4 ∧ 1 ≤ k ∧ k ≤ 3)) (hb : bys.Sublist namesL) : GoodN ns most ⟨2, fn, 0, 0, k, 0, 0, ⟨#[]⟩, [], bys⟩ 1
 | bin (fn : Int) (h1 : 0 ≤ fn) (h2 : fn < 4) : GoodN ns most ⟨3, fn, 0, 0, 0, 0, 0, ⟨#[]⟩, [], []⟩ 2
inductive GoodT (ns : List ByteArray) (most : Int) : Tree → Prop
 | mk (d : Nd) (ks : List Tree) (h : GoodN ns most d ks.length) (hk : ∀ t ∈ ks, GoodT ns most t) : GoodT ns most (.node d ks)
theorem bys_ok (p : Option ByteArray) (l : List ByteArray) (h1 : ∀ x ∈ l, nameB x = true) (h2 : l.Pairwise fun a b => leS b a = false) (h3 : ∀ y, p = some y → ∀ x ∈ l, leS x y = false) : bysFrom p l = true := by
 induction l generalizing p with
 | nil => rfl
 | cons x xs ih =>
  rw [List.pairwise_cons] at h2
  have e : bysFrom (some x) xs = true := ih (some x) (fun z hz => h1 z (by simp [hz])) h2.2 (fun y hy z hz => by cases hy; exact h2.1 z hz)
  cases p with
  | none => rw [bysFrom.eq_def]; simp [h1 x (by simp), e]
  | some y => rw [bysFrom.eq_def]; simp [h1 x (by simp), e, h3 y rfl x (by simp)]
theorem namesL_sorted : namesL.Pairwise fun a b => leS b a = false := by decide +kernel
theorem bys_sub {l : List ByteArray} (h : l.Sublist namesL) : bysB l = true :=
 bys_ok none l (fun x hx => (namesL_ok x (h.subset hx)).1) (namesL_sorted.sublist h) (fun y hy => by cases hy)
def NamesOk (ns : List ByteArray) : Prop := ∀ x ∈ ns, nameB x = true ∧ inGroups x = false ∧ x.size ≤ 16
theorem num_valid : ∀ x ∈ numsL, validB x 1 = true := by
 intro x hx
 rw [valid_iff]
 simp [numsL] at hx
 unfold M
 rcases hx with rfl | rfl | rfl | rfl | rfl | rfl <;> exact ⟨by omega, by omega, by omega, by simp⟩
theorem good_chk1 {ns : List ByteArray} {most : Int} {d : Nd} {n : Nat} (h : GoodN ns most d n) (hn : NamesOk ns) (hm : most ≤ 4096) : chk1 d n = 0 := by
 cases h with
 | num x hx =>
  have hv := num_valid x hx
  unfold chk1
  rw [if_neg (by simp [shapedB, noSelB, hv, ByteArray.toList_eq]), if_neg (by simp [namedB, bysB, bysFrom]), if_neg (by simp), if_neg (by simp [rangedB])]
 | sel fn win off k nm ms h1 h2 hnm ho ho2 hw hk hl hms =>
  obtain ⟨n1, n2, _⟩ := hn nm hnm
  have hb : bysB [] = true := rfl
  have hv : ms.all vmatB = true := by rw [List.all_eq_true]; exact fun m hm => (hms m hm).valid
  unfold chk1
  rw [if_neg (by simp [shapedB, noNumB]; omega), if_neg (by simp [namedB, n1, n2, hb]; exact fun a b c hm => (hms _ hm).valid), if_neg (by simp; omega)]
  rw [if_neg]
  simp only [rangedB]
  rcases hw with ⟨w1, w2⟩ | ⟨w1, w2, w3⟩
  ·have : k = 0 := by omega
   simp [w1, w2, this, ho]; omega
  ·rcases hk with ⟨k1, k2⟩ | ⟨k1, k2, k3⟩
   ·simp [w1, k1, k2, ho]; omega
   ·simp [w1, k1, ho]; omega
 | grp fn k bys h1 h2 hk hb =>
  have hv := bys_sub hb
  have hl : bys.length ≤ 6 := by simpa [namesL] using hb.length_le
  unfold chk1
  rw [if_neg (by simp [shapedB, noNumB, noSelB, ByteArray.toList_eq]; omega), if_neg (by simp [namedB, hv]), if_neg (by simp; omega)]
  rw [if_neg]
  simp only [rangedB]
  rcases hk with ⟨k1, k2⟩ | ⟨k1, k2, k3⟩
  ·simp [k1, k2]
  ·simp [k1]; omega
 | bin fn h1 h2 =>
  unfold chk1
  rw [if_neg (by simp [shapedB, noNumB, noSelB, ByteArray.toList_eq]; omega), if_neg (by simp [namedB, bysB, bysFrom]), if_neg (by simp), if_neg (by simp [rangedB])]
theorem chkL_zero {ts : List Tree} (h : ∀ t ∈ ts, chk t = 0) : chkL ts = 0 := by
 induction ts with
 | nil => rfl
 | cons t ts ih => rw [chkL, if_pos (h t (by simp)), ih (fun x hx => h x (by simp [hx]))]
theorem good_chk {ns : List ByteArray} {most : Int} (hn : NamesOk ns) (hm : most ≤ 4096) {t : Tree} (h : GoodT ns most t) : chk t = 0 := by
 induction h with
 | mk d ks h hk ih => rw [chk, if_pos (good_chk1 h hn hm), chkL_zero ih]
theorem good_valid {ns : List ByteArray} {most : Int} (hn : NamesOk ns) (hm : most ≤ 4096) {t : Tree} (h : GoodT ns most t) (h1 : dep t ≤ 12) (h2 : nds t ≤ 200) : validE t = 0 := by
 unfold validE fitB
 rw [decide_eq_true h2, decide_eq_true h1]
 simpa using good_chk hn hm h
/-- numbers and strings fit -/
theorem good_ok1 {ns : List ByteArray} {most : Int} {d : Nd} {n : Nat} (h : GoodN ns most d n) (hn : NamesOk ns) (hm : most ≤ 4096) : -9223372036854775808 ≤ d.k ∧ d.k ≤ 4096 ∧ (∀ m ∈ d.ms, m.1.size ≤ maxLen ∧ m.2.2.size ≤ maxLen) ∧ (∀ s ∈ d.bys, s.size ≤ maxLen) := by
 cases h with
 | num x hx => exact ⟨by simp, by simp, by simp, by simp⟩
 | sel fn win off k nm ms h1 h2 hnm ho ho2 hw hk hl hms => exact ⟨by simp only; omega, by simp only; omega, fun m hm => (good_ok (by omega) hms).2 m hm, by simp⟩
 | grp fn k bys h1 h2 hk hb => exact ⟨by simp only; omega, by simp only; omega, by simp, fun s hs => by have := (namesL_ok s (hb.subset hs)).2; unfold maxLen; omega⟩
 | bin fn h1 h2 => exact ⟨by simp, by simp, by simp, by simp⟩
def ns3 : List ByteArray := [⟨#[99, 112, 117]⟩, ⟨#[109, 101, 109]⟩, ⟨#[97]⟩]
def ns1 : List ByteArray := [⟨#[99, 112, 117]⟩]
theorem ns3_ok : NamesOk ns3 := by unfold NamesOk; decide +kernel
theorem ns1_ok : NamesOk ns1 := by unfold NamesOk; decide +kernel
end
end Go.Proofs.YtpgdijbfkahepaaGreatDoor
