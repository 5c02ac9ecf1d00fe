/- Contracts, packed: Da. -/
import Derived.Test.YthoibeajhdhdhaaGreatDoorPe10
import Derived.Test.YthoibeajhdhdhaaGreatDoorPe17
set_option linter.unusedVariables false
set_option linter.unusedSimpArgs false
namespace Go.Proofs.YthoibeajhdhdhaaGreatDoor
section
open Go.RowKit FracM
/-- matcher number k of a list of numbers -/
def matM (l : List Int) (k : Nat) : Mat := (namesL.getD (pickZ l (3 * (k : Int) + 1) 6).toNat ⟨#[]⟩, pickZ l (3 * (k : Int) + 2) 3, valuesL8.getD (pickZ l (3 * (k : Int) + 3) 8).toNat ⟨#[]⟩)
def matsM (l : List Int) : Nat → List Mat
 | 0 => []
 | n + 1 => matsM l n ++ [matM l n]
def matchersF (l : List Int) : List Mat := matsM l (pickZ l 0 4).toNat
def winF (l : List Int) (most fn i : Int) : Int × Int := if fn = 0 then (0, i) else (1 + pickZ l i most, i + 1)
def kF (l : List Int) (fn win i : Int) : Int × Int := if fn = 7 then (1 + pickZ l i win, i + 1) else (0, i)
def offF (l : List Int) (most i : Int) : Int × Int := if pickZ l i 2 = 1 then (pickZ l (i + 1) (most + 1), i + 1 + 1) else (0, i + 1)
def tenF (l : List Int) (i : Int) : Nat → List Int
 | 0 => []
 | n + 1 => tenF l i n ++ [pickZ l (i + (n : Nat)) 1000]
def msF (l : List Int) (i : Int) : List Mat × Int := if pickZ l i 2 = 1 then (matchersF (tenF l (i + 1) 10), i + 1 + 10) else ([], i + 1)
def selF (l : List Int) (ns : List ByteArray) (most i : Int) : Tree × Int :=
 (.node ⟨1, pickZ l i 8, (winF l most (pickZ l i 8) (i + 2)).1, (offF l most (kF l (pickZ l i 8) (winF l most (pickZ l i 8) (i + 2)).1 (winF l most (pickZ l i 8) (i + 2)).2).2).1, (kF l (pickZ l i 8) (winF l most (pickZ l i 8) (i + 2)).1 (winF l most (pickZ l i 8) (i + 2)).2).1, 0, 0, ns.getD (pickZ l (i + 1) ns.length).toNat ⟨#[]⟩, (msF l (offF l most (kF l (pickZ l i 8) (winF l most (pickZ l i 8) (i + 2)).1 (winF l most (pickZ l i 8) (i + 2)).2).2).2).1, []⟩ [], (msF l (offF l most (kF l (pickZ l i 8) (winF l most (pickZ l i 8) (i + 2)).1 (winF l most (pickZ l i 8) (i + 2)).2).2).2).2)
theorem selF_of {l : List Int} {ns : List ByteArray} {most i fn win i1 k i2 of i3 i4 : Int} {nm : ByteArray} {ms : List Mat} (e0 : fn = pickZ l i 8 ∧ nm = ns.getD (pickZ l (i + 1) ns.length).toNat ⟨#[]⟩) (e1 : winF l most fn (i + 2) = (win, i1)) (e2 : kF l fn win i1 = (k, i2)) (e3 : offF l most i2 = (of, i3)) (e4 : msF l i3 = (ms, i4)) : selF l ns most i = (.node ⟨1, fn, win, of, k, 0, 0, nm, ms, []⟩ [], i4) := by
 obtain ⟨e0, e0'⟩ := e0
 subst e0 e0'
 unfold selF
 simp only [e1, e2, e3, e4]
def grkF (l : List Int) (fn i : Int) : Int × Int := if fn = 4 then (1 + pickZ l i 3, i + 1) else (0, i)
def bysS (wh : Int) : Nat → Int × List ByteArray
 | 0 => (wh, [])
 | n + 1 => ((bysS wh n).1 / 2, if (bysS wh n).1 % 4 = 1 then (bysS wh n).2 ++ [namesL.getD n ⟨#[]⟩] else (bysS wh n).2)
def grpF (E : Int → Tree × Int) (l : List Int) (i : Int) : Tree × Int :=
 (.node ⟨2, pickZ l i 5, 0, 0, (grkF l (pickZ l i 5) (i + 1)).1, 0, 0, ⟨#[]⟩, [], (bysS (pickZ l (grkF l (pickZ l i 5) (i + 1)).2 64) 6).2⟩ [(E ((grkF l (pickZ l i 5) (i + 1)).2 + 1)).1], (E ((grkF l (pickZ l i 5) (i + 1)).2 + 1)).2)
theorem grpF_of {E : Int → Tree × Int} {l : List Int} {i fn k i1 wh i8 : Int} {bys : List ByteArray} {t : Tree} (e0 : fn = pickZ l i 5) (e1 : grkF l fn (i + 1) = (k, i1)) (e2 : bysS (pickZ l i1 64) 6 = (wh, bys)) (e3 : E (i1 + 1) = (t, i8)) : grpF E l i = (.node ⟨2, fn, 0, 0, k, 0, 0, ⟨#[]⟩, [], bys⟩ [t], i8) := by
 subst e0
 unfold grpF
 simp only [e1, e2, e3]
def exprF (l : List Int) (ns : List ByteArray) (most : Int) : Nat → Int → Tree × Int
 | 0, i => (.node ⟨0, 0, 0, 0, 0, 0, 0, ⟨#[]⟩, [], []⟩ [], i)
 | d + 1, i =>
  if pickZ l i 8 = 0 ∨ (d = 0 ∧ pickZ l i 8 < 3) then (.node ⟨0, 0, 0, 0, 0, numsL.getD (pickZ l (i + 1) 6).toNat 0, 1, ⟨#[]⟩, [], []⟩ [], i + 1 + 1)
  else if d = 0 ∨ pickZ l i 8 < 4 then selF l ns most (i + 1)
  else if pickZ l i 8 = 4 then grpF (exprF l ns most d) l (i + 1)
  else (.node ⟨3, pickZ l (i + 1) 4, 0, 0, 0, 0, 0, ⟨#[]⟩, [], []⟩ [(exprF l ns most d (i + 1 + 1)).1, (exprF l ns most d (exprF l ns most d (i + 1 + 1)).2).1], (exprF l ns most d (exprF l ns most d (i + 1 + 1)).2).2)
theorem getD_of {α : Type} {l : List α} {k : Nat} {x z : α} (h : l[k]? = some x) : x = l.getD k z := by simp [List.getD, h]
def RetTreeD (g : Nat) (lv nv : Value) (l : List Int) (ns : List ByteArray) (most i D : Int) (N K : Nat) (X : Tree × Int) (w : World) (e : Ending) (w' : World) : Prop :=
 ∃ (t : Tree) (s : Sl) (i' : Int), e = .returned (.agg (ndC t.d s.1 s.2.1 s.2.2)) ∧ TreeF w' w.heap.size t s ∧ GoodT ns most t ∧ (dep t : Int) ≤ D ∧ nds t ≤ N ∧ i ≤ i' ∧ i' ≤ i + K ∧ GenAt w' g i' lv nv l ns most ∧ Only g w w' ∧ X = (t, i')
theorem Strs.pickD {w : World} {base n c : Nat} {A : Option Addr} {l : List ByteArray} (h : Strs w base (.slice A n c) l) (i : Int) (h0 : 0 ≤ i) (h1 : i < l.length) : ∃ b off x, A = some ⟨b, off, none⟩ ∧ Fit w base 9 b ∧ (x ∈ l ∧ x = l.getD i.toNat ⟨#[]⟩) ∧ w.cell? ⟨b, off + i.toNat, none⟩ = some (.string x) := by
 have hk : i.toNat < l.length := by omega
 obtain ⟨h1, A', c', hv, _, _, h2⟩ := h
 cases hv
 obtain ⟨b, off, rfl, hf, hx⟩ := h2 (by omega)
 exact ⟨b, off, l[i.toNat], rfl, hf, ⟨List.getElem_mem hk, getD_of (List.getElem?_eq_getElem hk)⟩, hx i.toNat _ (by rw [List.getElem?_map, List.getElem?_eq_getElem hk]; rfl)⟩
def RetMsD (l : List Int) (w : World) (e : Ending) (w' : World) : Prop := ∃ (ms : List Mat) (A : Option Addr) (n c : Nat), e = .returned (.slice A n c) ∧ w'.ownsRow w.heap.size 91 3 (.slice A n c) ms.length (ms.flatMap matCells) ∧ ms.length ≤ 3 ∧ (∀ m ∈ ms, GoodMat m) ∧ Below w.heap.size w w' ∧ ms = matchersF l
def MsRelD (l : List Int) (w : World) (m : Int) (nv vv v i : Value) (wr : World) : Prop :=
 ∃ (k : Nat) (ms : List Mat), (k : Int) ≤ m ∧ i = .int .i64 k ∧ (ms.length = k ∧ ms = matsM l k) ∧ (∀ x ∈ ms, GoodMat x) ∧ wr.ownsRow w.heap.size 91 3 v k (ms.flatMap matCells) ∧ Strs wr w.heap.size nv namesL ∧ Strs wr w.heap.size vv valuesL8 ∧ Below w.heap.size w wr
set_option maxRecDepth 100000 in
set_option maxHeartbeats 2000000 in
theorem matchersD_own (A : Option Addr) (n c base : Nat) (l : List Int) (w : World) (h : Ints w base (.slice A n c) l) (hbase : base ≤ w.heap.size) :
    Calls Tryz.prog 127 #[.slice A n c] w (RetMsD l w) := by
  obtain ⟨i0, hi, hz0, hz1, hz2⟩ := info_parts strInfo
  obtain ⟨j0, hj, hy0, hy1, hy2⟩ := info_parts matInfo
  obtain ⟨hp1, hp2⟩ := pick_bd l 0 4 (by omega)
  have HI := Lib.hid h
  have HJ := Lib.hid (And.intro hj (And.intro hy0 (And.intro hy1 hy2)))
  clear h hj hy0 hy1 hy2
  go_enter Tryz.func127, Tryz.ntmps127
  go_wp2_with (first
    | (go_at_call 128; refine (names_any _).mono ?_; rintro e w1 ⟨rfl, rfl⟩)
    | (go_at_call 144; refine (values_any _).mono ?_; rintro e w2 ⟨rfl, rfl⟩)
    | (at_builtin; refine wpList_append_lies _ rfl _ _ 26 rfl w.heap.size 9 i0 _ 1 16 Tryz.underlying26 hi hz0 hz1 hz2 rfl (by decide) (.slice (some ⟨w.heap.size + 1, 0, none⟩) 6 6) 6 (valuesL.map Value.string) rfl (by exact (own_newAt (w := w.alloc _) _ _ 6 _ (by simp) (by omega) rfl rfl (by omega)).alloc _) ⟨w.heap.size + 1 + 1, 0, none⟩ 2 2 [.string ⟨#[]⟩, .string ⟨#[120]⟩] rfl rfl (cells2At (by simp) _ _ _) (by intro u hu; simp at hu; rcases hu with rfl | rfl <;> rfl) (by decide) (by unfold maxLen; omega) (by omega) (by simp; omega) _ rfl ?_; intro g8 cap8 w4 hown4 hg4 hat4 hlt4))
  have HS : Hid (Strs w4 w.heap.size (.slice (some ⟨w.heap.size, 0, none⟩) 6 6) namesL ∧ Strs w4 w.heap.size (.slice (some ⟨g8, 0, none⟩) (6 + 2) cap8) valuesL8 ∧ Below w.heap.size w w4) := by
    have hb3 : Below w.heap.size w (((w.alloc (.cells #[.string ⟨#[97]⟩, .string ⟨#[97, 98]⟩, .string ⟨#[98]⟩, .string ⟨#[106, 111, 98]⟩, .string ⟨#[120, 95, 49]⟩, .string ⟨#[122, 111, 110, 101]⟩] 9)).alloc (.cells #[.string ⟨#[97]⟩, .string ⟨#[97, 98]⟩, .string ⟨#[98]⟩, .string ⟨#[120, 49]⟩, .string ⟨#[126, 33]⟩, .string ⟨#[48]⟩] 9)).alloc (.cells #[.string ⟨#[]⟩, .string ⟨#[120]⟩] 9)) := ((bel1 _ _).alloc (by simp) _).alloc (by simp; omega) _
    have hn := (own_newAt (w := w) (base := w.heap.size) #[.string ⟨#[97]⟩, .string ⟨#[97, 98]⟩, .string ⟨#[98]⟩, .string ⟨#[106, 111, 98]⟩, .string ⟨#[120, 95, 49]⟩, .string ⟨#[122, 111, 110, 101]⟩] 9 6 (namesL.map Value.string) rfl (Nat.le_refl _) rfl rfl (by omega))
    refine ⟨Seq.of_own (((hn.alloc _).alloc _).kept hg4 (.inr ?_)), Seq.of_own hown4, hb3.grown hg4 (by simp; omega) (fun k hk => by simp [Value.ownBlock] at hk; omega)⟩
    simp [Value.ownBlock]
  clear hown4 hg4 hat4
  go_loopw [5, 6] (fun v i wr => MsRelD l w (pickZ l 0 4) (.slice (some ⟨w.heap.size, 0, none⟩) 6 6) (.slice (some ⟨g8, 0, none⟩) (6 + 2) cap8) v i wr) (fun _ i _ => (pickZ l 0 4 - intOf i).toNat)
  case atStart => exact ⟨0, [], by omega, rfl, ⟨rfl, rfl⟩, fun x hx => by simp at hx, World.ownsRow_nil _ _ _ _, HS.out.1, HS.out.2.1, HS.out.2.2⟩
  case round =>
    obtain ⟨k, ms, hk, rfl, hlen, hgood, hown, hsn, hsv, hbw⟩ := hrel
    have hsz := hbw.size
    clear HS
    have HIr := Lib.hid (HI.out.below hbw)
    by_cases hlt : (k : Int) < pickZ l 0 4
    · obtain ⟨q1, q2⟩ := pick_bd l (3 * (k : Int) + 1) 6 (by omega)
      obtain ⟨q3, q4⟩ := pick_bd l (3 * (k : Int) + 2) 3 (by omega)
      obtain ⟨q5, q6⟩ := pick_bd l (3 * (k : Int) + 3) 8 (by omega)
      obtain ⟨b1, off1, x1, hA1, hb1, hx1, hc1⟩ := hsn.pickD _ q1 (by simp [namesL]; omega)
      obtain ⟨b2, off2, x2, hA2, hb2, hx2, hc2⟩ := hsv.pickD _ q5 (by simp [valuesL8, valuesL]; omega)
      have HXE : Hid ((x1, pickZ l (3 * (k : Int) + 2) 3, x2) = matM l k) := by
        have e1 := hx1.2
        have e2 := hx2.2
        show _ = _
        unfold matM
        rw [← e1, ← e2]
      replace hx1 := hx1.1
      replace hx2 := hx2.1
      simp only [Option.some.injEq, Addr.mk.injEq, and_true] at hA1 hA2
      obtain ⟨rfl, rfl⟩ := hA1
      obtain ⟨rfl, rfl⟩ := hA2
      simp only [Nat.zero_add] at hc1 hc2
      have HFT := Lib.hid (And.intro hb1 hb2)
      clear hb1 hb2
      have HG : Hid (GoodMat (x1, pickZ l (3 * (k : Int) + 2) 3, x2)) := ⟨hx1, ⟨q3, q4⟩, hx2⟩
      have HR := Lib.hid (And.intro hlen (And.intro hgood (And.intro hown (And.intro hsn (And.intro hsv hbw)))))
      clear hlen hgood hown hsn hsv hbw hx1 hx2
      have t1 : IntKind.i64.wrap (3 * (k : Int)) = 3 * (k : Int) := by rw [IntWalk.i64_in _ (by omega)]
      have t2 : IntKind.i64.wrap (3 * (k : Int) + 1) = 3 * (k : Int) + 1 := by rw [IntWalk.i64_in _ (by omega)]
      have t3 : IntKind.i64.wrap (3 * (k : Int) + 2) = 3 * (k : Int) + 2 := by rw [IntWalk.i64_in _ (by omega)]
      have t4 : IntKind.i64.wrap (3 * (k : Int) + 3) = 3 * (k : Int) + 3 := by rw [IntWalk.i64_in _ (by omega)]
      go_wp2_with (go_at_call 54; refine (pick_any _ _ _ base l _ _ _ HIr.out (by omega) (by omega)).mono ?_; rintro e w' ⟨rfl, rfl⟩)
      go_region_held3 (fun w' => w'.cell? ⟨w.heap.size, (pickZ l (3 * (k : Int) + 1) 6).toNat, none⟩ = some (.string x1) ∧ w'.cell? ⟨g8, (pickZ l (3 * (k : Int) + 3) 8).toNat, none⟩ = some (.string x2)) (first | go_keep | exact HK9.out)
        (first
          | (refine step_append_lies _ rfl _ _ 25 rfl w.heap.size 91 j0 _ 3 40 Tryz.underlying25 HJ.out.1 HJ.out.2.1 HJ.out.2.2.1 HJ.out.2.2.2 rfl (by decide) u5 k (ms.flatMap matCells) rfl (by exact (HR.out.2.2.1).alloc _) ⟨wr.heap.size, 0, none⟩ 1 1 (matCells (x1, pickZ l (3 * (k : Int) + 2) 3, x2)) rfl rfl (cells3 _ _ _ _ _) (mat_one _) (by decide) (by unfold maxLen; omega) (by omega) (by simp; omega) _ rfl ?_
             intro g cap w9 hown9 hg9 hat9 hlt9
             have HF9 : Hid (Fr w.heap.size [91] wr w9) := grow_fr HR.out.2.2.1 (by first | exact bel1 _ _ | exact (bel1 _ _).drew) hg9
             have HK9 : Hid (w9.cell? ⟨w.heap.size, (pickZ l (3 * (k : Int) + 1) 6).toNat, none⟩ = some (.string x1) ∧ w9.cell? ⟨g8, (pickZ l (3 * (k : Int) + 3) 8).toNat, none⟩ = some (.string x2)) := ⟨fit_cell HFT.out.1 HF9.out (by decide) hc1, fit_cell HFT.out.2 HF9.out (by decide) hc2⟩
             have HO9 := Lib.hid hown9
             clear hown9 hg9 hat9)
          | (go_at_call 54; refine (pick_any _ _ _ base l _ _ _ (by exact HIr.out) (by omega) (by omega)).mono ?_; rintro e w' ⟨rfl, rfl⟩))
      have HFIN : Hid (w9.ownsRow w.heap.size 91 3 (.slice (some ⟨g, 0, none⟩) (k + 1) cap) (k + 1) ((ms ++ [(x1, pickZ l (3 * (k : Int) + 2) 3, x2)]).flatMap matCells)) := by rw [Hid, List.flatMap_append]; simpa using HO9.out
      clear t1 t2 t3 t4 HO9
      go_wp2
      go_roundw
      case rel =>
        refine ⟨k + 1, ms ++ [(x1, pickZ l (3 * (k : Int) + 2) 3, x2)], by omega, by go_num, ⟨by simp [HR.out.1.1], by rw [matsM, ← HR.out.1.2]; rw [show (x1, pickZ l (3 * (k : Int) + 2) 3, x2) = matM l k from HXE]⟩, fun x hx => ?_, HFIN.out, HR.out.2.2.2.1.keep HF9.out (by decide), HR.out.2.2.2.2.1.keep HF9.out (by decide), HR.out.2.2.2.2.2.trans (fr_below HF9.out hsz)⟩
        rcases List.mem_append.1 hx with hx | hx
        · exact HR.out.2.1 x hx
        · simp at hx; subst hx; exact HG.out
      case measure => simp [intOf]; omega
    · obtain ⟨A2, c2, hv2⟩ := own_form hown
      have HV := Lib.hid hv2
      clear hv2
      go_wp2_with (go_at_call 54; refine (pick_any _ _ _ base l _ _ _ HIr.out (by omega) (by omega)).mono ?_; rintro e w' ⟨rfl, rfl⟩)
      go_ret
      exact ⟨ms, A2, k, c2, congrArg Ending.returned HV.out, by have h := hown; rw [HV.out] at h; rw [hlen.1]; exact h, by have := hlen.1; omega, hgood, hbw, by rw [hlen.2]; unfold matchersF; congr 1; omega⟩
end
end Go.Proofs.YthoibeajhdhdhaaGreatDoor
