/- Contracts, packed: Yi Yj Qj Qu Ua. -/
import Derived.Test.YtpgdijbfkahepaaGreatDoorPd8
import Derived.Test.YtpgdijbfkahepaaGreatDoorPd10
set_option linter.unusedVariables false
set_option linter.unusedSimpArgs false
namespace Go.Proofs.YtpgdijbfkahepaaGreatDoor
section
open Go.RowKit
end
section
open Go.RowKit
end
section
open Go.RowKit
def RetMsO (w : World) (e : Ending) (w' : World) : Prop := ∃ (ms : List Mat) (A : Option Addr) (n c : Nat), e = .returned (.slice A n c) ∧ w'.ownsRow w.heap.size 75 3 (.slice A n c) ms.length (ms.flatMap matCells) ∧ ms.length ≤ 3 ∧ (∀ m ∈ ms, GoodMat m) ∧ Below w.heap.size w w'
set_option maxRecDepth 100000 in
set_option maxHeartbeats 2000000 in
theorem matchers_own (A : Option Addr) (n c base : Nat) (l : List Int) (w : World) (h : Ints w base (.slice A n c) l) (hbase : base ≤ w.heap.size) :
    Calls Tryz.prog 70 #[.slice A n c] w (RetMsO w) := by
  obtain ⟨i0, hi, hz0, hz1, hz2⟩ := info_parts strInfo
  obtain ⟨j0, hj, hy0, hy1, hy2⟩ := info_parts matInfo
  obtain ⟨hp1, hp2⟩ := pick_bd l 0 4 (by omega)
  have HI := Lib.hid h
  have HJ := Lib.hid (And.intro hj (And.intro hy0 (And.intro hy1 hy2)))
  clear h hj hy0 hy1 hy2
  go_enter Tryz.func70, Tryz.ntmps70
  go_wp2_with (first
    | (go_at_call 26; refine (names_any _).mono ?_; rintro e w1 ⟨rfl, rfl⟩)
    | (go_at_call 27; refine (values_any _).mono ?_; rintro e w2 ⟨rfl, rfl⟩)
    | (at_builtin; refine wpList_append_lies _ rfl _ _ 32 rfl w.heap.size 9 i0 _ 1 16 Tryz.underlying32 hi hz0 hz1 hz2 rfl (by decide) (.slice (some ⟨w.heap.size + 1, 0, none⟩) 6 6) 6 (valuesL.map Value.string) rfl (by exact (own_newAt (w := w.alloc _) _ _ 6 _ (by simp) (by omega) rfl rfl (by omega)).alloc _) ⟨w.heap.size + 1 + 1, 0, none⟩ 2 2 [.string ⟨#[]⟩, .string ⟨#[120]⟩] rfl rfl (cells2At (by simp) _ _ _) (by intro u hu; simp at hu; rcases hu with rfl | rfl <;> rfl) (by decide) (by unfold maxLen; omega) (by omega) (by simp; omega) _ rfl ?_; intro g8 cap8 w4 hown4 hg4 hat4 hlt4))
  have HS : Hid (Strs w4 w.heap.size (.slice (some ⟨w.heap.size, 0, none⟩) 6 6) namesL ∧ Strs w4 w.heap.size (.slice (some ⟨g8, 0, none⟩) (6 + 2) cap8) valuesL8 ∧ Below w.heap.size w w4) := by
    have hb3 : Below w.heap.size w (((w.alloc (.cells #[.string ⟨#[97]⟩, .string ⟨#[97, 98]⟩, .string ⟨#[98]⟩, .string ⟨#[106, 111, 98]⟩, .string ⟨#[120, 95, 49]⟩, .string ⟨#[122, 111, 110, 101]⟩] 9)).alloc (.cells #[.string ⟨#[97]⟩, .string ⟨#[97, 98]⟩, .string ⟨#[98]⟩, .string ⟨#[120, 49]⟩, .string ⟨#[126, 33]⟩, .string ⟨#[48]⟩] 9)).alloc (.cells #[.string ⟨#[]⟩, .string ⟨#[120]⟩] 9)) := ((bel1 _ _).alloc (by simp) _).alloc (by simp; omega) _
    have hn := (own_newAt (w := w) (base := w.heap.size) #[.string ⟨#[97]⟩, .string ⟨#[97, 98]⟩, .string ⟨#[98]⟩, .string ⟨#[106, 111, 98]⟩, .string ⟨#[120, 95, 49]⟩, .string ⟨#[122, 111, 110, 101]⟩] 9 6 (namesL.map Value.string) rfl (Nat.le_refl _) rfl rfl (by omega))
    refine ⟨Seq.of_own (((hn.alloc _).alloc _).kept hg4 (.inr ?_)), Seq.of_own hown4, hb3.grown hg4 (by simp; omega) (fun k hk => by simp [Value.ownBlock] at hk; omega)⟩
    simp [Value.ownBlock]
  clear hown4 hg4 hat4
  go_loopw [5, 6] (fun v i wr => MsRel w (pickZ l 0 4) (.slice (some ⟨w.heap.size, 0, none⟩) 6 6) (.slice (some ⟨g8, 0, none⟩) (6 + 2) cap8) v i wr) (fun _ i _ => (pickZ l 0 4 - intOf i).toNat)
  case atStart => exact ⟨0, [], by omega, rfl, rfl, fun x hx => by simp at hx, World.ownsRow_nil _ _ _ _, HS.out.1, HS.out.2.1, HS.out.2.2⟩
  case round =>
    obtain ⟨k, ms, hk, rfl, hlen, hgood, hown, hsn, hsv, hbw⟩ := hrel
    have hsz := hbw.size
    clear HS
    have HIr := Lib.hid (HI.out.below hbw)
    by_cases hlt : (k : Int) < pickZ l 0 4
    · obtain ⟨q1, q2⟩ := pick_bd l (3 * (k : Int) + 1) 6 (by omega)
      obtain ⟨q3, q4⟩ := pick_bd l (3 * (k : Int) + 2) 3 (by omega)
      obtain ⟨q5, q6⟩ := pick_bd l (3 * (k : Int) + 3) 8 (by omega)
      obtain ⟨b1, off1, x1, hA1, hb1, hx1, hc1⟩ := hsn.pick _ q1 (by simp [namesL]; omega)
      obtain ⟨b2, off2, x2, hA2, hb2, hx2, hc2⟩ := hsv.pick _ q5 (by simp [valuesL8, valuesL]; omega)
      simp only [Option.some.injEq, Addr.mk.injEq, and_true] at hA1 hA2
      obtain ⟨rfl, rfl⟩ := hA1
      obtain ⟨rfl, rfl⟩ := hA2
      simp only [Nat.zero_add] at hc1 hc2
      have HFT := Lib.hid (And.intro hb1 hb2)
      clear hb1 hb2
      have HG : Hid (GoodMat (x1, pickZ l (3 * (k : Int) + 2) 3, x2)) := ⟨hx1, ⟨q3, q4⟩, hx2⟩
      have HR := Lib.hid (And.intro hlen (And.intro hgood (And.intro hown (And.intro hsn (And.intro hsv hbw)))))
      clear hlen hgood hown hsn hsv hbw hx1 hx2
      have t1 : IntKind.i64.wrap (3 * (k : Int)) = 3 * (k : Int) := by rw [IntWalk.i64_in _ (by omega)]
      have t2 : IntKind.i64.wrap (3 * (k : Int) + 1) = 3 * (k : Int) + 1 := by rw [IntWalk.i64_in _ (by omega)]
      have t3 : IntKind.i64.wrap (3 * (k : Int) + 2) = 3 * (k : Int) + 2 := by rw [IntWalk.i64_in _ (by omega)]
      have t4 : IntKind.i64.wrap (3 * (k : Int) + 3) = 3 * (k : Int) + 3 := by rw [IntWalk.i64_in _ (by omega)]
      go_wp2_with (go_at_call 12; refine (pick_any _ _ _ base l _ _ _ HIr.out (by omega) (by omega)).mono ?_; rintro e w' ⟨rfl, rfl⟩)
      go_region_held3 (fun w' => w'.cell? ⟨w.heap.size, (pickZ l (3 * (k : Int) + 1) 6).toNat, none⟩ = some (.string x1) ∧ w'.cell? ⟨g8, (pickZ l (3 * (k : Int) + 3) 8).toNat, none⟩ = some (.string x2)) (first | go_keep | exact HK9.out)
        (first
          | (refine step_append_lies _ rfl _ _ 31 rfl w.heap.size 75 j0 _ 3 40 Tryz.underlying31 HJ.out.1 HJ.out.2.1 HJ.out.2.2.1 HJ.out.2.2.2 rfl (by decide) u5 k (ms.flatMap matCells) rfl (by exact (HR.out.2.2.1).alloc _) ⟨wr.heap.size, 0, none⟩ 1 1 (matCells (x1, pickZ l (3 * (k : Int) + 2) 3, x2)) rfl rfl (cells3 _ _ _ _ _) (mat_one _) (by decide) (by unfold maxLen; omega) (by omega) (by simp; omega) _ rfl ?_
             intro g cap w9 hown9 hg9 hat9 hlt9
             have HF9 : Hid (Fr w.heap.size [75] wr w9) := grow_fr HR.out.2.2.1 (by first | exact bel1 _ _ | exact (bel1 _ _).drew) hg9
             have HK9 : Hid (w9.cell? ⟨w.heap.size, (pickZ l (3 * (k : Int) + 1) 6).toNat, none⟩ = some (.string x1) ∧ w9.cell? ⟨g8, (pickZ l (3 * (k : Int) + 3) 8).toNat, none⟩ = some (.string x2)) := ⟨fit_cell HFT.out.1 HF9.out (by decide) hc1, fit_cell HFT.out.2 HF9.out (by decide) hc2⟩
             have HO9 := Lib.hid hown9
             clear hown9 hg9 hat9)
          | (go_at_call 12; refine (pick_any _ _ _ base l _ _ _ (by exact HIr.out) (by omega) (by omega)).mono ?_; rintro e w' ⟨rfl, rfl⟩))
      have HFIN : Hid (w9.ownsRow w.heap.size 75 3 (.slice (some ⟨g, 0, none⟩) (k + 1) cap) (k + 1) ((ms ++ [(x1, pickZ l (3 * (k : Int) + 2) 3, x2)]).flatMap matCells)) := by rw [Hid, List.flatMap_append]; simpa using HO9.out
      clear t1 t2 t3 t4 HO9
      go_wp2
      go_roundw
      case rel =>
        refine ⟨k + 1, ms ++ [(x1, pickZ l (3 * (k : Int) + 2) 3, x2)], by omega, by go_num, by simp [HR.out.1], fun x hx => ?_, HFIN.out, HR.out.2.2.2.1.keep HF9.out (by decide), HR.out.2.2.2.2.1.keep HF9.out (by decide), HR.out.2.2.2.2.2.trans (fr_below HF9.out hsz)⟩
        rcases List.mem_append.1 hx with hx | hx
        · exact HR.out.2.1 x hx
        · simp at hx; subst hx; exact HG.out
      case measure => simp [intOf]; omega
    · obtain ⟨A2, c2, hv2⟩ := own_form hown
      have HV := Lib.hid hv2
      clear hv2
      go_wp2_with (go_at_call 12; refine (pick_any _ _ _ base l _ _ _ HIr.out (by omega) (by omega)).mono ?_; rintro e w' ⟨rfl, rfl⟩)
      go_ret
      exact ⟨ms, A2, k, c2, congrArg Ending.returned HV.out, by have h := hown; rw [HV.out] at h; rw [hlen]; exact h, by omega, hgood, hbw⟩
end
section
open Go.RowKit FracM
end
section
open Go.RowKit FracM
mutual
/-- the instructions of a tree -/
def postT : Tree → List Nd
 | .node d ks => postL ks ++ [d]
def postL : List Tree → List Nd
 | [] => []
 | t :: ts => postT t ++ postL ts
end
theorem postL_len (ks : List Tree) (h : ∀ t ∈ ks, (postT t).length = nds t) : (postL ks).length = ndsL ks := by
 induction ks with
 | nil => rfl
 | cons t r ih =>
  rw [postL, ndsL, List.length_append, h t (by simp), ih fun x hx => h x (by simp [hx])]
theorem postT_len : ∀ t, (postT t).length = nds t := Tree.ind fun d ks ih => by
 rw [postT, nds, List.length_append, postL_len ks ih]; rfl
def popsN (k : Int) : Nat := if k = 3 then 2 else if k = 2 then 1 else 0
def stackM : List Nd → List Tree → Option (List Tree)
 | [], st => some st
 | d :: r, st => if (0 ≤ d.kind ∧ d.kind ≤ 3) ∧ popsN d.kind ≤ st.length then stackM r (st.take (st.length - popsN d.kind) ++ [.node d (st.drop (st.length - popsN d.kind))]) else none
/-- the tree of a plan, and its error -/
def treeM (l : List Nd) : Tree × Int :=
 if 200 < l.length then (zeroT, 4) else
 match stackM l [] with
 | some [t] => if validE t = 0 then (t, 0) else (zeroT, validE t)
 | _ => (zeroT, 1)
theorem stackM_app (a b : List Nd) : ∀ st, stackM (a ++ b) st = (stackM a st).bind (stackM b) := by
 induction a with
 | nil => intro st; rfl
 | cons d r ih =>
  intro st
  rw [List.cons_append, stackM, stackM]
  split
  ·exact ih _
  ·rfl
theorem stack_postL (ks : List Tree) (h : ∀ t ∈ ks, ∀ st, stackM (postT t) st = some (st ++ [t])) : ∀ st, stackM (postL ks) st = some (st ++ ks) := by
 induction ks with
 | nil => intro st; rw [postL, stackM, List.append_nil]
 | cons t r ih =>
  intro st
  rw [postL, stackM_app, h t (by simp), Option.bind_some, ih fun x hx => h x (by simp [hx])]
  simp
theorem chk1_shp {d : Nd} {n : Nat} (h : chk1 d n = 0) : shapedB d n = true := by
 unfold chk1 at h
 cases hs : shapedB d n with
 | true => rfl
 | false => rw [hs] at h; simp at h
theorem stack_post : ∀ t, chk t = 0 → ∀ st, stackM (postT t) st = some (st ++ [t]) := Tree.ind fun d ks ih h st => by
 obtain ⟨h1, h2⟩ := chk_ok h
 rw [postT, stackM_app, stack_postL ks (fun t ht => ih t ht (h2 t ht)), Option.bind_some, stackM]
 have hs := shape_cases (chk1_shp h1)
 have hp : popsN d.kind = ks.length ∧ 0 ≤ d.kind ∧ d.kind ≤ 3 := by
  unfold popsN
  rcases hs with hk | hk | hk | hk
  ·rw [if_neg (by omega), if_neg (by omega)]; omega
  ·rw [if_neg (by omega), if_neg (by omega)]; omega
  ·rw [if_neg (by omega), if_pos (by omega)]; omega
  ·rw [if_pos (by omega)]; omega
 rw [if_pos ⟨hp.2, by rw [hp.1, List.length_append]; omega⟩, hp.1, List.length_append, Nat.add_sub_cancel, List.take_left', List.drop_left']
 ·rw [stackM]
 ·rfl
 ·rfl
theorem tree_post {t : Tree} (h : validE t = 0) : treeM (postT t) = (t, 0) := by
 have hv := h
 unfold validE at h
 by_cases hf : fitB t = false
 ·rw [if_pos hf] at h; cases h
 ·rw [if_neg hf] at h
  have hn : nds t ≤ 200 := by
   have : fitB t = true := by simpa using hf
   unfold fitB at this
   simp only [Bool.and_eq_true, decide_eq_true_eq] at this
   exact this.1
  unfold treeM
  rw [if_neg (by rw [postT_len]; omega), stack_post t h []]
  show (if validE t = 0 then (t, 0) else (zeroT, validE t)) = (t, 0)
  rw [if_pos hv]
/-- the compiled plan of a tree, and the error -/
def compileM (t : Tree) : List Nd × Int := if validE t = 0 then (postT t, 0) else ([], validE t)
def firstM (d : Nd) : Int := if d.fn = 0 then -d.off else if d.fn = 5 ∨ d.fn = 6 then -d.off - d.win else -d.off - (d.win - 1)
def reachL (r : Int) (l : List Nd) : Int := l.foldl (fun r d => if d.kind = 1 then min r (firstM d) else r) r
def reachM (l : List Nd) : Int := if (treeM l).2 = 0 then reachL 0 l else 0
end
end Go.Proofs.YtpgdijbfkahepaaGreatDoor
