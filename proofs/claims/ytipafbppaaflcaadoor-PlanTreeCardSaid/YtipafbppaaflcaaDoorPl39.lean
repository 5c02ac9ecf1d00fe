/- Contracts, packed: Sp. -/
import Derived.Test.YtipafbppaaflcaaDoorPl22
set_option linter.unusedVariables false
set_option linter.unusedSimpArgs false
namespace Go.Proofs.YtipafbppaaflcaaDoor
section
open Go.RowKit FracM
theorem kid_put0 {W : World} {g : Nat} {t : TypeId} {a0 a1 a2 a3 a4 a5 a6 a7 a8 a9 a10 u0 u1 u2 u3 u4 u5 u6 u7 u8 u9 u10 : Value} {rest : List Value} (h : Blk W g t ⟨a0 :: a1 :: a2 :: a3 :: a4 :: a5 :: a6 :: a7 :: a8 :: a9 :: a10 :: rest⟩) : Blk (((((((((((W.setCell ⟨g, 0, none⟩ u0).setCell ⟨g, 1, none⟩ u1).setCell ⟨g, 2, none⟩ u2).setCell ⟨g, 3, none⟩ u3).setCell ⟨g, 4, none⟩ u4).setCell ⟨g, 5, none⟩ u5).setCell ⟨g, 6, none⟩ u6).setCell ⟨g, 7, none⟩ u7).setCell ⟨g, 8, none⟩ u8).setCell ⟨g, 9, none⟩ u9).setCell ⟨g, 10, none⟩ u10) g t ⟨u0 :: u1 :: u2 :: u3 :: u4 :: u5 :: u6 :: u7 :: u8 :: u9 :: u10 :: rest⟩ := by
 have h0 : Blk (W.setCell ⟨g, 0, none⟩ u0) g t ⟨u0 :: a1 :: a2 :: a3 :: a4 :: a5 :: a6 :: a7 :: a8 :: a9 :: a10 :: rest⟩ := by simpa using h.set 0 u0
 have h1 : Blk ((W.setCell ⟨g, 0, none⟩ u0).setCell ⟨g, 1, none⟩ u1) g t ⟨u0 :: u1 :: a2 :: a3 :: a4 :: a5 :: a6 :: a7 :: a8 :: a9 :: a10 :: rest⟩ := by simpa using h0.set 1 u1
 have h2 : Blk (((W.setCell ⟨g, 0, none⟩ u0).setCell ⟨g, 1, none⟩ u1).setCell ⟨g, 2, none⟩ u2) g t ⟨u0 :: u1 :: u2 :: a3 :: a4 :: a5 :: a6 :: a7 :: a8 :: a9 :: a10 :: rest⟩ := by simpa using h1.set 2 u2
 have h3 : Blk ((((W.setCell ⟨g, 0, none⟩ u0).setCell ⟨g, 1, none⟩ u1).setCell ⟨g, 2, none⟩ u2).setCell ⟨g, 3, none⟩ u3) g t ⟨u0 :: u1 :: u2 :: u3 :: a4 :: a5 :: a6 :: a7 :: a8 :: a9 :: a10 :: rest⟩ := by simpa using h2.set 3 u3
 have h4 : Blk (((((W.setCell ⟨g, 0, none⟩ u0).setCell ⟨g, 1, none⟩ u1).setCell ⟨g, 2, none⟩ u2).setCell ⟨g, 3, none⟩ u3).setCell ⟨g, 4, none⟩ u4) g t ⟨u0 :: u1 :: u2 :: u3 :: u4 :: a5 :: a6 :: a7 :: a8 :: a9 :: a10 :: rest⟩ := by simpa using h3.set 4 u4
 have h5 : Blk ((((((W.setCell ⟨g, 0, none⟩ u0).setCell ⟨g, 1, none⟩ u1).setCell ⟨g, 2, none⟩ u2).setCell ⟨g, 3, none⟩ u3).setCell ⟨g, 4, none⟩ u4).setCell ⟨g, 5, none⟩ u5) g t ⟨u0 :: u1 :: u2 :: u3 :: u4 :: u5 :: a6 :: a7 :: a8 :: a9 :: a10 :: rest⟩ := by simpa using h4.set 5 u5
 have h6 : Blk (((((((W.setCell ⟨g, 0, none⟩ u0).setCell ⟨g, 1, none⟩ u1).setCell ⟨g, 2, none⟩ u2).setCell ⟨g, 3, none⟩ u3).setCell ⟨g, 4, none⟩ u4).setCell ⟨g, 5, none⟩ u5).setCell ⟨g, 6, none⟩ u6) g t ⟨u0 :: u1 :: u2 :: u3 :: u4 :: u5 :: u6 :: a7 :: a8 :: a9 :: a10 :: rest⟩ := by simpa using h5.set 6 u6
 have h7 : Blk ((((((((W.setCell ⟨g, 0, none⟩ u0).setCell ⟨g, 1, none⟩ u1).setCell ⟨g, 2, none⟩ u2).setCell ⟨g, 3, none⟩ u3).setCell ⟨g, 4, none⟩ u4).setCell ⟨g, 5, none⟩ u5).setCell ⟨g, 6, none⟩ u6).setCell ⟨g, 7, none⟩ u7) g t ⟨u0 :: u1 :: u2 :: u3 :: u4 :: u5 :: u6 :: u7 :: a8 :: a9 :: a10 :: rest⟩ := by simpa using h6.set 7 u7
 have h8 : Blk (((((((((W.setCell ⟨g, 0, none⟩ u0).setCell ⟨g, 1, none⟩ u1).setCell ⟨g, 2, none⟩ u2).setCell ⟨g, 3, none⟩ u3).setCell ⟨g, 4, none⟩ u4).setCell ⟨g, 5, none⟩ u5).setCell ⟨g, 6, none⟩ u6).setCell ⟨g, 7, none⟩ u7).setCell ⟨g, 8, none⟩ u8) g t ⟨u0 :: u1 :: u2 :: u3 :: u4 :: u5 :: u6 :: u7 :: u8 :: a9 :: a10 :: rest⟩ := by simpa using h7.set 8 u8
 have h9 : Blk ((((((((((W.setCell ⟨g, 0, none⟩ u0).setCell ⟨g, 1, none⟩ u1).setCell ⟨g, 2, none⟩ u2).setCell ⟨g, 3, none⟩ u3).setCell ⟨g, 4, none⟩ u4).setCell ⟨g, 5, none⟩ u5).setCell ⟨g, 6, none⟩ u6).setCell ⟨g, 7, none⟩ u7).setCell ⟨g, 8, none⟩ u8).setCell ⟨g, 9, none⟩ u9) g t ⟨u0 :: u1 :: u2 :: u3 :: u4 :: u5 :: u6 :: u7 :: u8 :: u9 :: a10 :: rest⟩ := by simpa using h8.set 9 u9
 have h10 : Blk (((((((((((W.setCell ⟨g, 0, none⟩ u0).setCell ⟨g, 1, none⟩ u1).setCell ⟨g, 2, none⟩ u2).setCell ⟨g, 3, none⟩ u3).setCell ⟨g, 4, none⟩ u4).setCell ⟨g, 5, none⟩ u5).setCell ⟨g, 6, none⟩ u6).setCell ⟨g, 7, none⟩ u7).setCell ⟨g, 8, none⟩ u8).setCell ⟨g, 9, none⟩ u9).setCell ⟨g, 10, none⟩ u10) g t ⟨u0 :: u1 :: u2 :: u3 :: u4 :: u5 :: u6 :: u7 :: u8 :: u9 :: u10 :: rest⟩ := by simpa using h9.set 10 u10
 exact h10
theorem kid_put1 {W : World} {g : Nat} {t : TypeId} {b0 b1 b2 b3 b4 b5 b6 b7 b8 b9 b10 a0 a1 a2 a3 a4 a5 a6 a7 a8 a9 a10 u0 u1 u2 u3 u4 u5 u6 u7 u8 u9 u10 : Value} {rest : List Value} (h : Blk W g t ⟨b0 :: b1 :: b2 :: b3 :: b4 :: b5 :: b6 :: b7 :: b8 :: b9 :: b10 :: a0 :: a1 :: a2 :: a3 :: a4 :: a5 :: a6 :: a7 :: a8 :: a9 :: a10 :: rest⟩) : Blk (((((((((((W.setCell ⟨g, 11, none⟩ u0).setCell ⟨g, 12, none⟩ u1).setCell ⟨g, 13, none⟩ u2).setCell ⟨g, 14, none⟩ u3).setCell ⟨g, 15, none⟩ u4).setCell ⟨g, 16, none⟩ u5).setCell ⟨g, 17, none⟩ u6).setCell ⟨g, 18, none⟩ u7).setCell ⟨g, 19, none⟩ u8).setCell ⟨g, 20, none⟩ u9).setCell ⟨g, 21, none⟩ u10) g t ⟨b0 :: b1 :: b2 :: b3 :: b4 :: b5 :: b6 :: b7 :: b8 :: b9 :: b10 :: u0 :: u1 :: u2 :: u3 :: u4 :: u5 :: u6 :: u7 :: u8 :: u9 :: u10 :: rest⟩ := by
 have h0 : Blk (W.setCell ⟨g, 11, none⟩ u0) g t ⟨b0 :: b1 :: b2 :: b3 :: b4 :: b5 :: b6 :: b7 :: b8 :: b9 :: b10 :: u0 :: a1 :: a2 :: a3 :: a4 :: a5 :: a6 :: a7 :: a8 :: a9 :: a10 :: rest⟩ := by simpa using h.set 11 u0
 have h1 : Blk ((W.setCell ⟨g, 11, none⟩ u0).setCell ⟨g, 12, none⟩ u1) g t ⟨b0 :: b1 :: b2 :: b3 :: b4 :: b5 :: b6 :: b7 :: b8 :: b9 :: b10 :: u0 :: u1 :: a2 :: a3 :: a4 :: a5 :: a6 :: a7 :: a8 :: a9 :: a10 :: rest⟩ := by simpa using h0.set 12 u1
 have h2 : Blk (((W.setCell ⟨g, 11, none⟩ u0).setCell ⟨g, 12, none⟩ u1).setCell ⟨g, 13, none⟩ u2) g t ⟨b0 :: b1 :: b2 :: b3 :: b4 :: b5 :: b6 :: b7 :: b8 :: b9 :: b10 :: u0 :: u1 :: u2 :: a3 :: a4 :: a5 :: a6 :: a7 :: a8 :: a9 :: a10 :: rest⟩ := by simpa using h1.set 13 u2
 have h3 : Blk ((((W.setCell ⟨g, 11, none⟩ u0).setCell ⟨g, 12, none⟩ u1).setCell ⟨g, 13, none⟩ u2).setCell ⟨g, 14, none⟩ u3) g t ⟨b0 :: b1 :: b2 :: b3 :: b4 :: b5 :: b6 :: b7 :: b8 :: b9 :: b10 :: u0 :: u1 :: u2 :: u3 :: a4 :: a5 :: a6 :: a7 :: a8 :: a9 :: a10 :: rest⟩ := by simpa using h2.set 14 u3
 have h4 : Blk (((((W.setCell ⟨g, 11, none⟩ u0).setCell ⟨g, 12, none⟩ u1).setCell ⟨g, 13, none⟩ u2).setCell ⟨g, 14, none⟩ u3).setCell ⟨g, 15, none⟩ u4) g t ⟨b0 :: b1 :: b2 :: b3 :: b4 :: b5 :: b6 :: b7 :: b8 :: b9 :: b10 :: u0 :: u1 :: u2 :: u3 :: u4 :: a5 :: a6 :: a7 :: a8 :: a9 :: a10 :: rest⟩ := by simpa using h3.set 15 u4
 have h5 : Blk ((((((W.setCell ⟨g, 11, none⟩ u0).setCell ⟨g, 12, none⟩ u1).setCell ⟨g, 13, none⟩ u2).setCell ⟨g, 14, none⟩ u3).setCell ⟨g, 15, none⟩ u4).setCell ⟨g, 16, none⟩ u5) g t ⟨b0 :: b1 :: b2 :: b3 :: b4 :: b5 :: b6 :: b7 :: b8 :: b9 :: b10 :: u0 :: u1 :: u2 :: u3 :: u4 :: u5 :: a6 :: a7 :: a8 :: a9 :: a10 :: rest⟩ := by simpa using h4.set 16 u5
 have h6 : Blk (((((((W.setCell ⟨g, 11, none⟩ u0).setCell ⟨g, 12, none⟩ u1).setCell ⟨g, 13, none⟩ u2).setCell ⟨g, 14, none⟩ u3).setCell ⟨g, 15, none⟩ u4).setCell ⟨g, 16, none⟩ u5).setCell ⟨g, 17, none⟩ u6) g t ⟨b0 :: b1 :: b2 :: b3 :: b4 :: b5 :: b6 :: b7 :: b8 :: b9 :: b10 :: u0 :: u1 :: u2 :: u3 :: u4 :: u5 :: u6 :: a7 :: a8 :: a9 :: a10 :: rest⟩ := by simpa using h5.set 17 u6
 have h7 : Blk ((((((((W.setCell ⟨g, 11, none⟩ u0).setCell ⟨g, 12, none⟩ u1).setCell ⟨g, 13, none⟩ u2).setCell ⟨g, 14, none⟩ u3).setCell ⟨g, 15, none⟩ u4).setCell ⟨g, 16, none⟩ u5).setCell ⟨g, 17, none⟩ u6).setCell ⟨g, 18, none⟩ u7) g t ⟨b0 :: b1 :: b2 :: b3 :: b4 :: b5 :: b6 :: b7 :: b8 :: b9 :: b10 :: u0 :: u1 :: u2 :: u3 :: u4 :: u5 :: u6 :: u7 :: a8 :: a9 :: a10 :: rest⟩ := by simpa using h6.set 18 u7
 have h8 : Blk (((((((((W.setCell ⟨g, 11, none⟩ u0).setCell ⟨g, 12, none⟩ u1).setCell ⟨g, 13, none⟩ u2).setCell ⟨g, 14, none⟩ u3).setCell ⟨g, 15, none⟩ u4).setCell ⟨g, 16, none⟩ u5).setCell ⟨g, 17, none⟩ u6).setCell ⟨g, 18, none⟩ u7).setCell ⟨g, 19, none⟩ u8) g t ⟨b0 :: b1 :: b2 :: b3 :: b4 :: b5 :: b6 :: b7 :: b8 :: b9 :: b10 :: u0 :: u1 :: u2 :: u3 :: u4 :: u5 :: u6 :: u7 :: u8 :: a9 :: a10 :: rest⟩ := by simpa using h7.set 19 u8
 have h9 : Blk ((((((((((W.setCell ⟨g, 11, none⟩ u0).setCell ⟨g, 12, none⟩ u1).setCell ⟨g, 13, none⟩ u2).setCell ⟨g, 14, none⟩ u3).setCell ⟨g, 15, none⟩ u4).setCell ⟨g, 16, none⟩ u5).setCell ⟨g, 17, none⟩ u6).setCell ⟨g, 18, none⟩ u7).setCell ⟨g, 19, none⟩ u8).setCell ⟨g, 20, none⟩ u9) g t ⟨b0 :: b1 :: b2 :: b3 :: b4 :: b5 :: b6 :: b7 :: b8 :: b9 :: b10 :: u0 :: u1 :: u2 :: u3 :: u4 :: u5 :: u6 :: u7 :: u8 :: u9 :: a10 :: rest⟩ := by simpa using h8.set 20 u9
 have h10 : Blk (((((((((((W.setCell ⟨g, 11, none⟩ u0).setCell ⟨g, 12, none⟩ u1).setCell ⟨g, 13, none⟩ u2).setCell ⟨g, 14, none⟩ u3).setCell ⟨g, 15, none⟩ u4).setCell ⟨g, 16, none⟩ u5).setCell ⟨g, 17, none⟩ u6).setCell ⟨g, 18, none⟩ u7).setCell ⟨g, 19, none⟩ u8).setCell ⟨g, 20, none⟩ u9).setCell ⟨g, 21, none⟩ u10) g t ⟨b0 :: b1 :: b2 :: b3 :: b4 :: b5 :: b6 :: b7 :: b8 :: b9 :: b10 :: u0 :: u1 :: u2 :: u3 :: u4 :: u5 :: u6 :: u7 :: u8 :: u9 :: u10 :: rest⟩ := by simpa using h9.set 21 u10
 exact h10
theorem good_small {ns : List ByteArray} {most : Int} {d : Nd} {n : Nat} (h : GoodN ns most d n) : d.ms.length ≤ 1000 ∧ d.bys.length ≤ 1000 ∧ n ≤ 2 := by
 cases h with
 | num x h => simp
 | sel fn win off k nm ms h1 h2 hn ho ho2 hw hk hl hm => simp; omega
 | grp fn k bys h1 h2 hk hb => have := hb.length_le; simp [namesL] at this ⊢; omega
 | bin fn h1 h2 => simp
theorem depL_set (ks : List Tree) (k : Nat) (x y : Tree) (hx : ks[k]? = some x) (h : dep y ≤ dep x + 1) : depL (ks.set k y) ≤ depL ks + 1 := by
 induction ks generalizing k with
 | nil => simp at hx
 | cons t ts ih =>
  cases k with
  | zero => simp at hx; subst hx; rw [List.set_cons_zero, depL, depL]; omega
  | succ k => rw [List.set_cons_succ, depL, depL]; have := ih k (by simpa using hx); omega
theorem ndsL_set (ks : List Tree) (k : Nat) (x y : Tree) (hx : ks[k]? = some x) (h : nds y ≤ nds x + 1) : ndsL (ks.set k y) ≤ ndsL ks + 1 := by
 induction ks generalizing k with
 | nil => simp at hx
 | cons t ts ih =>
  cases k with
  | zero => simp at hx; subst hx; rw [List.set_cons_zero, ndsL, ndsL]; omega
  | succ k => rw [List.set_cons_succ, ndsL, ndsL]; have := ih k (by simpa using hx); omega
theorem exprInfo : (Tryd.prog.info? 29).map (fun i => (i.zero, i.size, i.bytes)) = some (some (.agg zeroC), 11, 144) := by kernel_rfl
theorem nd_one {w : World} {P : Nat → Nat → Prop} {t : Tree} {s : Sl} (h : TreeAt w P t s) : ∀ u ∈ ndL (t, s), u.oneCell' = true := by
 obtain ⟨d, ks⟩ := t
 obtain ⟨mv, bv, kv⟩ := s
 obtain ⟨A1, n1, rfl, -⟩ := h.nod.ms.form
 obtain ⟨A2, n2, rfl, -⟩ := h.nod.bys.form
 obtain ⟨A3, n3, rfl, -⟩ := h.nod.kform
 intro u hu
 simp [ndL, Tree.d] at hu
 rcases hu with rfl | rfl | rfl | rfl | rfl | rfl | rfl | rfl | rfl | rfl | rfl <;> rfl
theorem nds_one {w : World} {P : Nat → Nat → Prop} {ks : List Tree} {cs : List Sl} (hl : cs.length = ks.length) (h : ∀ (i : Nat) (t : Tree) (c : Sl), ks[i]? = some t → cs[i]? = some c → TreeAt w P t c) : ∀ u ∈ (ks.zip cs).flatMap ndL, u.oneCell' = true := by
 intro u hu
 rw [List.mem_flatMap] at hu
 obtain ⟨x, hx, hu⟩ := hu
 obtain ⟨i, hi⟩ := List.getElem?_of_mem hx
 obtain ⟨t, s⟩ := x
 rw [List.getElem?_zip_eq_some] at hi
 exact nd_one (h i t s hi.1 hi.2) u hu
theorem row_blk {W : World} {g m cap : Nat} {xs : List Value} (h : W.ownsRow 0 29 11 (.slice (some ⟨g, 0, none⟩) m cap) m xs) : ∃ rest, Blk W g 29 ⟨xs ++ rest⟩ ∧ m ≤ cap ∧ cap ≤ maxLen ∧ (xs ++ rest).length = cap * 11 ∧ xs.length = m * 11 := by
 rcases h.2 with ⟨h2, _⟩ | ⟨g', c', cur, h1, h2, h3, h4, h5, h6, h7⟩
 ·cases h2
 ·cases h1
  refine ⟨cur.toList.drop (m * 11), ?_, h4, h5, ?_, h.1⟩
  ·rw [← h7, List.take_append_drop]; exact h3
  ·rw [← h7, List.take_append_drop]; simpa using h6
theorem row_of {W : World} {g m cap : Nat} {xs rest : List Value} (h : Blk W g 29 ⟨xs ++ rest⟩) (h1 : m ≤ cap) (h2 : cap ≤ maxLen) (h3 : (xs ++ rest).length = cap * 11) (h4 : xs.length = m * 11) : W.ownsRow 0 29 11 (.slice (some ⟨g, 0, none⟩) m cap) m xs :=
 ⟨h4, .inr ⟨g, cap, _, rfl, Nat.zero_le _, h, h1, h2, by simpa using h3, by rw [← h4]; simp⟩⟩
abbrev putK (W : World) (g o : Nat) (u0 u1 u2 u3 u4 u5 u6 u7 u8 u9 u10 : Value) : World := (((((((((((W.setCell ⟨g, o, none⟩ u0).setCell ⟨g, o + 1, none⟩ u1).setCell ⟨g, o + 2, none⟩ u2).setCell ⟨g, o + 3, none⟩ u3).setCell ⟨g, o + 4, none⟩ u4).setCell ⟨g, o + 5, none⟩ u5).setCell ⟨g, o + 6, none⟩ u6).setCell ⟨g, o + 7, none⟩ u7).setCell ⟨g, o + 8, none⟩ u8).setCell ⟨g, o + 9, none⟩ u9).setCell ⟨g, o + 10, none⟩ u10)
theorem putK_only {W : World} {g : Nat} (o : Nat) (u0 u1 u2 u3 u4 u5 u6 u7 u8 u9 u10 : Value) : Only g W (putK W g o u0 u1 u2 u3 u4 u5 u6 u7 u8 u9 u10) :=
 (((((((((((Only.setCell _ u0).trans (Only.setCell _ u1)).trans (Only.setCell _ u2)).trans (Only.setCell _ u3)).trans (Only.setCell _ u4)).trans (Only.setCell _ u5)).trans (Only.setCell _ u6)).trans (Only.setCell _ u7)).trans (Only.setCell _ u8)).trans (Only.setCell _ u9)).trans (Only.setCell _ u10))
theorem row_set0 {W : World} {g m cap : Nat} {x y : Tree × Sl} {zs : List (Tree × Sl)} (h : W.ownsRow 0 29 11 (.slice (some ⟨g, 0, none⟩) m cap) m ((x :: zs).flatMap ndL)) :
  (putK W g 0 (.int .i64 y.1.d.kind) (.int .i64 y.1.d.fn) (.int .i64 y.1.d.win) (.int .i64 y.1.d.off) (.int .i64 y.1.d.k) (.int .i64 y.1.d.num) (.int .i64 y.1.d.den) (.string y.1.d.name) y.2.1 y.2.2.1 y.2.2.2).ownsRow 0 29 11 (.slice (some ⟨g, 0, none⟩) m cap) m ((y :: zs).flatMap ndL) := by
 obtain ⟨rest, hb, h1, h2, h3, h4⟩ := row_blk h
 refine row_of (rest := rest) (kid_put0 (rest := zs.flatMap ndL ++ rest) hb) h1 h2 ?_ ?_
 ·rw [← h3]; simp [ndL]
 ·rw [← h4]; simp [ndL]
theorem row_set1 {W : World} {g m cap : Nat} {x0 x y : Tree × Sl} {zs : List (Tree × Sl)} (h : W.ownsRow 0 29 11 (.slice (some ⟨g, 0, none⟩) m cap) m ((x0 :: x :: zs).flatMap ndL)) :
  (putK W g 11 (.int .i64 y.1.d.kind) (.int .i64 y.1.d.fn) (.int .i64 y.1.d.win) (.int .i64 y.1.d.off) (.int .i64 y.1.d.k) (.int .i64 y.1.d.num) (.int .i64 y.1.d.den) (.string y.1.d.name) y.2.1 y.2.2.1 y.2.2.2).ownsRow 0 29 11 (.slice (some ⟨g, 0, none⟩) m cap) m ((x0 :: y :: zs).flatMap ndL) := by
 obtain ⟨rest, hb, h1, h2, h3, h4⟩ := row_blk h
 refine row_of (rest := rest) (kid_put1 (rest := zs.flatMap ndL ++ rest) hb) h1 h2 ?_ ?_
 ·rw [← h3]; simp [ndL]
 ·rw [← h4]; simp [ndL]
theorem Ch.spf {w W W' : World} {B H : Nat} {L : Nat → Nat} {d : Nd} {mv bv kv : Value} (h : Ch w W B H L d mv bv kv) (f : SpF B H L W W') (hH : H ≤ w.heap.size) : Ch w W' B H L d mv bv kv :=
 ⟨h.fr.trans f, (f.block _ h.e.lt (.inr hH)).trans h.e, (f.block _ h.z.lt (.inr (by omega))).trans h.z⟩
theorem Ch.only {w W W' : World} {B H g : Nat} {L : Nat → Nat} {d : Nd} {mv bv kv : Value} (h : Ch w W B H L d mv bv kv) (f : Only g W W') (hg : w.heap.size + 1 < g) : Ch w W' B H L d mv bv kv :=
 ⟨h.fr.then_below ⟨f.os, f.tape, f.output, f.size, fun k hk => f.block k (by have := h.fr.size; omega) (by omega)⟩, f.blk h.e (by omega), f.blk h.z (by omega)⟩
theorem tdiv4 (a : Int) (h1 : -9223372036854775808 ≤ a) (h2 : a ≤ 9223372036854775807) : I64 (a.tdiv 4) := by
 unfold I64
 by_cases h : 0 ≤ a
 ·rw [Int.tdiv_eq_ediv_of_nonneg h]; omega
 ·rw [show a = -(-a) by omega, Int.neg_tdiv, Int.tdiv_eq_ediv_of_nonneg (by omega)]; omega
theorem set_zip {ks : List Tree} {cs : List Sl} (k : Nat) (t : Tree) (s : Sl) : (ks.set k t).zip (cs.set k s) = (ks.zip cs).set k (t, s) := by
 induction ks generalizing cs k with
 | nil => simp
 | cons x xs ih =>
  cases cs with
  | nil => simp
  | cons c cs => cases k with
   | zero => rfl
   | succ k => simp [ih]
def ChangedOk : Prop := ∀ (d : Nd) (ks : List Tree) (mv bv kv : Value) (wh v : Int) (B H : Nat) (L : Nat → Nat) (w : World),
  TreeG w (fun b e => B ≤ b ∧ b < H ∧ e = L b) (.node d ks) (mv, bv, kv) → H ≤ w.heap.size → I64 wh → I64 v → d.ms.length ≤ 1000 → d.bys.length ≤ 1000 → ks.length ≤ 1000 →
  Calls Tryd.prog 33 #[.agg (ndC d mv bv kv), .int .i64 wh, .int .i64 v] w (RetSp B H L (.node d ks) w)
def SpoiltOk (ns : List ByteArray) (most wh v : Int) (t : Tree) : Prop := ∀ (B H : Nat) (L : Nat → Nat) (at' : Int) (w : World) (s : Sl),
  TreeG w (fun b e => B ≤ b ∧ b < H ∧ e = L b) t s → GoodT ns most t → H ≤ w.heap.size → I64 at' →
  Calls Tryd.prog 10 #[.agg (ndC t.d s.1 s.2.1 s.2.2), .int .i64 at', .int .i64 wh, .int .i64 v] w (RetSp B H L t w)
set_option maxHeartbeats 8000000 in
set_option maxRecDepth 100000 in
theorem spoilt_any (hch : ChangedOk) (ns : List ByteArray) (most wh v : Int) (hwh : I64 wh) (hv : I64 v) : ∀ t, SpoiltOk ns most wh v t := by
 refine Tree.ind ?_
 intro d ks ih B H L at' w ⟨mv, bv, kv⟩ hT hG hH hat
 have IH := Box.mk ih
 have HCH := Box.mk hch
 have HWV := Box.mk (And.intro hwh hv)
 obtain ⟨hgn, hgk⟩ : GoodN ns most d ks.length ∧ ∀ t ∈ ks, GoodT ns most t := by cases hG with | mk _ _ h1 h2 => exact ⟨h1, h2⟩
 obtain ⟨s1, s2, s3⟩ := good_small hgn
 have HGK := Box.mk hgk
 obtain ⟨A1, n1, hmv, l1⟩ := hT.tree.nod.ms.form
 obtain ⟨A2, n2, hbv, l2⟩ := hT.tree.nod.bys.form
 obtain ⟨A3, n3, hkv, l3⟩ := hT.tree.nod.kform
 subst hmv hbv hkv
 have HT := Box.mk hT
 have HOK := Box.mk hT.tree.nod.ok
 have HC := Box.mk (Ch.start w B H L d (.slice A1 d.ms.length n1) (.slice A2 d.bys.length n2) (.slice A3 ks.length n3))
 have HB0 := Box.mk (bel2 w (.cells (ndC d (.slice A1 d.ms.length n1) (.slice A2 d.bys.length n2) (.slice A3 ks.length n3)) 29) (.cells zeroC 29))
 have HS := Box.mk (And.intro s1 (And.intro s2 s3))
 obtain ⟨ha1, ha2⟩ := hat
 clear hT hG hgn hgk ih hch hwh hv s1 s2
 simp only [Tree.d]
 go_enter Tryd.func10, Tryd.ntmps10
 go_upto_region 1 with (fail)
 generalize (w.alloc (.cells (ndC d _ _ _) 29)).alloc (.cells _ 29) = W at HC HB0 ⊢
 obtain ⟨c0, c1, c2, c3, c4, c5, c6, c7, c8, c9, c10⟩ := blk11 HC.out.e
 simp only [Nat.zero_add] at c1 c2 c3 c4 c5 c6 c7 c8 c9 c10
 have cf := HC.out.e.frozen
 obtain ⟨n, HN⟩ : ∃ n : Int, Box (around at' 4 = n) := ⟨_, ⟨rfl⟩⟩
 have hn := around_bd at' 4 (by omega)
 rw [HN.out] at hn
 have HTW := Box.mk (HT.out.belo HB0.out)
 by_cases hz : n = 0 ∨ ks.length = 0
 ·have fin : ∀ w', w' = W → Calls Tryd.prog 33 #[.agg (ndC d (.slice A1 d.ms.length n1) (.slice A2 d.bys.length n2) (.slice A3 ks.length n3)), .int .i64 wh, .int .i64 v] w' (RetSp B H L (.node d ks) w') := by
   intro w' hw'
   subst hw'
   exact HCH.out d ks _ _ _ wh v B H L _ HTW.out (by have := HC.out.fr.size; omega) HWV.out.1 HWV.out.2 HS.out.1 HS.out.2.1 (by have := HS.out.2.2; omega)
  have FIN := Box.mk fin
  clear fin
  have key : (n = 0) ∨ (n ≠ 0 ∧ (((ks.length : Nat) : Int) == 0) = true) := by
   by_cases h0 : n = 0
   ·exact .inl h0
   ·refine .inr ⟨h0, ?_⟩
    have : ks.length = 0 := by omega
    rw [this]; rfl
  clear hz s3
  rcases key with h0 | ⟨h0, hl0⟩
  ·have hne : (n == 0) = true := by simpa using h0
   clear h0
   go_wp2_with (go_at_call 17; refine (around_any _ _ _ (by omega) (by omega) (by omega) (by omega)).mono ?_; rintro e w' ⟨rfl, rfl⟩; rw [HN.out])
   refine (FIN.out _ rfl).mono ?_
   rintro e w3 ⟨t', s', rfl, ht', hd', hn', hsp⟩
   obtain ⟨e, es⟩ := t'
   obtain ⟨q1, q2, q3⟩ := s'
   obtain ⟨B1, m1, rfl, -⟩ := ht'.nod.ms.form
   obtain ⟨B2, m2, rfl, -⟩ := ht'.nod.bys.form
   obtain ⟨B3, m3, rfl, -⟩ := ht'.nod.kform
   simp only [Tree.d]
   have HZ : Box (Blk w3 (w.heap.size + 1) 29 zeroC) := ⟨(hsp.block _ HC.out.z.lt (.inr (by omega))).trans HC.out.z⟩
   have HR := Box.mk (And.intro ht' (And.intro hd' (And.intro hn' (HC.out.fr.trans hsp))))
   clear ht' hd' hn' hsp c0 c1 c2 c3 c4 c5 c6 c7 c8 c9 c10 cf
   obtain ⟨z0, z1, z2, z3, z4, z5, z6, z7, z8, z9, z10⟩ := blk11 HZ.out
   simp only [Nat.zero_add] at z1 z2 z3 z4 z5 z6 z7 z8 z9 z10
   have zf := HZ.out.frozen
   go_wp2_with fail
   have HF : Box (Blk (put11 w3 (w.heap.size + 1) (.int .i64 e.kind) (.int .i64 e.fn) (.int .i64 e.win) (.int .i64 e.off) (.int .i64 e.k) (.int .i64 e.num) (.int .i64 e.den) (.string e.name) (.slice B1 e.ms.length m1) (.slice B2 e.bys.length m2) (.slice B3 es.length m3)) (w.heap.size + 1) 29 (ndC e (.slice B1 e.ms.length m1) (.slice B2 e.bys.length m2) (.slice B3 es.length m3))) := ⟨put11_blk HZ.out⟩
   have HA : Box (TreeAt (put11 w3 (w.heap.size + 1) (.int .i64 e.kind) (.int .i64 e.fn) (.int .i64 e.win) (.int .i64 e.off) (.int .i64 e.k) (.int .i64 e.num) (.int .i64 e.den) (.string e.name) (.slice B1 e.ms.length m1) (.slice B2 e.bys.length m2) (.slice B3 es.length m3)) (FrP H w.heap.size) (.node e es) (.slice B1 e.ms.length m1, .slice B2 e.bys.length m2, .slice B3 es.length m3) ∧ SpF B H L w (put11 w3 (w.heap.size + 1) (.int .i64 e.kind) (.int .i64 e.fn) (.int .i64 e.win) (.int .i64 e.off) (.int .i64 e.k) (.int .i64 e.num) (.int .i64 e.den) (.string e.name) (.slice B1 e.ms.length m1) (.slice B2 e.bys.length m2) (.slice B3 es.length m3))) := ⟨(HR.out.1.keep (Agree.of_only (put11_only ..) (fun b e hp => by have := HC.out.z.lt; rcases hp with hp | hp <;> omega))).mono (fun b e _ hp => by have := HC.out.fr.size; rcases hp with hp | hp; exact .inl hp; exact .inr (by omega)), HR.out.2.2.2.then_below (put11_below (by omega) ..)⟩
   show bodyPost _ _ _ _ _ (put11 w3 (w.heap.size + 1) (.int .i64 e.kind) (.int .i64 e.fn) (.int .i64 e.win) (.int .i64 e.off) (.int .i64 e.k) (.int .i64 e.num) (.int .i64 e.den) (.string e.name) (.slice B1 e.ms.length m1) (.slice B2 e.bys.length m2) (.slice B3 es.length m3))
   generalize (put11 w3 (w.heap.size + 1) (.int .i64 e.kind) (.int .i64 e.fn) (.int .i64 e.win) (.int .i64 e.off) (.int .i64 e.k) (.int .i64 e.num) (.int .i64 e.den) (.string e.name) (.slice B1 e.ms.length m1) (.slice B2 e.bys.length m2) (.slice B3 es.length m3)) = WF at HF HA ⊢
   clear z0 z1 z2 z3 z4 z5 z6 z7 z8 z9 z10 zf
   obtain ⟨e0, e1, e2, e3, e4, e5, e6, e7, e8, e9, e10⟩ := blk11 HF.out
   simp only [Nat.zero_add] at e1 e2 e3 e4 e5 e6 e7 e8 e9 e10
   have ef := HF.out.frozen
   refine bodyPost_ret (v := .agg (ndC e (.slice B1 e.ms.length m1) (.slice B2 e.bys.length m2) (.slice B3 es.length m3))) (by simp [results, Tryd.results10, go_sem, e0, e1, e2, e3, e4, e5, e6, e7, e8, e9, e10, ef]) rfl ?_
   exact ⟨.node e es, (.slice B1 e.ms.length m1, .slice B2 e.bys.length m2, .slice B3 es.length m3), rfl, HA.out.1, HR.out.2.1, HR.out.2.2.1, HA.out.2⟩
  ·have hne : (n == 0) = false := by simpa using h0
   clear h0
   go_wp2_with (go_at_call 17; refine (around_any _ _ _ (by omega) (by omega) (by omega) (by omega)).mono ?_; rintro e w' ⟨rfl, rfl⟩; rw [HN.out])
   refine (FIN.out _ rfl).mono ?_
   rintro e w3 ⟨t', s', rfl, ht', hd', hn', hsp⟩
   obtain ⟨e, es⟩ := t'
   obtain ⟨q1, q2, q3⟩ := s'
   obtain ⟨B1, m1, rfl, -⟩ := ht'.nod.ms.form
   obtain ⟨B2, m2, rfl, -⟩ := ht'.nod.bys.form
   obtain ⟨B3, m3, rfl, -⟩ := ht'.nod.kform
   simp only [Tree.d]
   have HZ : Box (Blk w3 (w.heap.size + 1) 29 zeroC) := ⟨(hsp.block _ HC.out.z.lt (.inr (by omega))).trans HC.out.z⟩
   have HR := Box.mk (And.intro ht' (And.intro hd' (And.intro hn' (HC.out.fr.trans hsp))))
   clear ht' hd' hn' hsp c0 c1 c2 c3 c4 c5 c6 c7 c8 c9 c10 cf
   obtain ⟨z0, z1, z2, z3, z4, z5, z6, z7, z8, z9, z10⟩ := blk11 HZ.out
   simp only [Nat.zero_add] at z1 z2 z3 z4 z5 z6 z7 z8 z9 z10
   have zf := HZ.out.frozen
   go_wp2_with fail
   have HF : Box (Blk (put11 w3 (w.heap.size + 1) (.int .i64 e.kind) (.int .i64 e.fn) (.int .i64 e.win) (.int .i64 e.off) (.int .i64 e.k) (.int .i64 e.num) (.int .i64 e.den) (.string e.name) (.slice B1 e.ms.length m1) (.slice B2 e.bys.length m2) (.slice B3 es.length m3)) (w.heap.size + 1) 29 (ndC e (.slice B1 e.ms.length m1) (.slice B2 e.bys.length m2) (.slice B3 es.length m3))) := ⟨put11_blk HZ.out⟩
   have HA : Box (TreeAt (put11 w3 (w.heap.size + 1) (.int .i64 e.kind) (.int .i64 e.fn) (.int .i64 e.win) (.int .i64 e.off) (.int .i64 e.k) (.int .i64 e.num) (.int .i64 e.den) (.string e.name) (.slice B1 e.ms.length m1) (.slice B2 e.bys.length m2) (.slice B3 es.length m3)) (FrP H w.heap.size) (.node e es) (.slice B1 e.ms.length m1, .slice B2 e.bys.length m2, .slice B3 es.length m3) ∧ SpF B H L w (put11 w3 (w.heap.size + 1) (.int .i64 e.kind) (.int .i64 e.fn) (.int .i64 e.win) (.int .i64 e.off) (.int .i64 e.k) (.int .i64 e.num) (.int .i64 e.den) (.string e.name) (.slice B1 e.ms.length m1) (.slice B2 e.bys.length m2) (.slice B3 es.length m3))) := ⟨(HR.out.1.keep (Agree.of_only (put11_only ..) (fun b e hp => by have := HC.out.z.lt; rcases hp with hp | hp <;> omega))).mono (fun b e _ hp => by have := HC.out.fr.size; rcases hp with hp | hp; exact .inl hp; exact .inr (by omega)), HR.out.2.2.2.then_below (put11_below (by omega) ..)⟩
   show bodyPost _ _ _ _ _ (put11 w3 (w.heap.size + 1) (.int .i64 e.kind) (.int .i64 e.fn) (.int .i64 e.win) (.int .i64 e.off) (.int .i64 e.k) (.int .i64 e.num) (.int .i64 e.den) (.string e.name) (.slice B1 e.ms.length m1) (.slice B2 e.bys.length m2) (.slice B3 es.length m3))
   generalize (put11 w3 (w.heap.size + 1) (.int .i64 e.kind) (.int .i64 e.fn) (.int .i64 e.win) (.int .i64 e.off) (.int .i64 e.k) (.int .i64 e.num) (.int .i64 e.den) (.string e.name) (.slice B1 e.ms.length m1) (.slice B2 e.bys.length m2) (.slice B3 es.length m3)) = WF at HF HA ⊢
   clear z0 z1 z2 z3 z4 z5 z6 z7 z8 z9 z10 zf
   obtain ⟨e0, e1, e2, e3, e4, e5, e6, e7, e8, e9, e10⟩ := blk11 HF.out
   simp only [Nat.zero_add] at e1 e2 e3 e4 e5 e6 e7 e8 e9 e10
   have ef := HF.out.frozen
   refine bodyPost_ret (v := .agg (ndC e (.slice B1 e.ms.length m1) (.slice B2 e.bys.length m2) (.slice B3 es.length m3))) (by simp [results, Tryd.results10, go_sem, e0, e1, e2, e3, e4, e5, e6, e7, e8, e9, e10, ef]) rfl ?_
   exact ⟨.node e es, (.slice B1 e.ms.length m1, .slice B2 e.bys.length m2, .slice B3 es.length m3), rfl, HA.out.1, HR.out.2.1, HR.out.2.2.1, HA.out.2⟩
 ·have hne : (n == 0) = false := beq_eq_false_iff_ne.2 (by omega)
  have hl0 : (((ks.length : Nat) : Int) == 0) = false := beq_eq_false_iff_ne.2 (by omega)
  have hlp : 0 < ks.length := by omega
  obtain ⟨k, HK⟩ : ∃ k : Nat, Box (n.tmod (ks.length : Int) = (k : Int) ∧ k < ks.length ∧ k < 2) := by
   have h1 : ks.length = 1 ∨ ks.length = 2 := by omega
   have h2 : n = 1 ∨ n = 2 ∨ n = 3 := by omega
   rcases h1 with h1 | h1 <;> rcases h2 with rfl | rfl | rfl <;> rw [h1]
   ·exact ⟨0, ⟨rfl, by omega, by omega⟩⟩
   ·exact ⟨0, ⟨rfl, by omega, by omega⟩⟩
   ·exact ⟨0, ⟨rfl, by omega, by omega⟩⟩
   ·exact ⟨1, ⟨rfl, by omega, by omega⟩⟩
   ·exact ⟨0, ⟨rfl, by omega, by omega⟩⟩
   ·exact ⟨1, ⟨rfl, by omega, by omega⟩⟩
  clear hz s3
  obtain ⟨cs, HCS, HCW⟩ : ∃ cs : List Sl, Box (cs.length = ks.length ∧ OwnP W (fun b e => B ≤ b ∧ b < H ∧ e = L b) 29 11 (.slice A3 ks.length n3) ks.length ((ks.zip cs).flatMap ndL) ∧ ∀ (i : Nat) (t : Tree) (c : Sl), ks[i]? = some t → cs[i]? = some c → TreeG W (fun b e => B ≤ b ∧ b < H ∧ e = L b) t c) ∧ Box (∀ (i : Nat) (t : Tree) (c : Sl), ks[i]? = some t → cs[i]? = some c → TreeG w (fun b e => B ≤ b ∧ b < H ∧ e = L b) t c) := by
   cases HT.out with
   | mk _ _ _ _ _ cs hd hm hb hl hk hr => exact ⟨cs, ⟨hl, hk.keep (AgreeB.of_below HB0.out), fun i t c h1 h2 => (hr i t c h1 h2).belo HB0.out⟩, ⟨hr⟩⟩
  obtain ⟨gk, hA3, HGK3⟩ : ∃ gk, A3 = some ⟨gk, 0, none⟩ ∧ Box (ks.length ≤ n3) := by
   rcases HCS.out.2.1.1.2 with ⟨h2, h3⟩ | ⟨g', c', cur, h1, h2, h3, h4, h5⟩
   ·omega
   ·cases h1; exact ⟨_, rfl, ⟨h4⟩⟩
  subst hA3
  have HNEWS : Box (∀ j u, ((ks.zip cs).flatMap ndL)[j]? = some u → W.cell? ((⟨gk, 0, none⟩ : Addr).add j) = some u) := ⟨fun j u hj => by
   have hjl : j < ks.length * 11 := by have := (List.getElem?_eq_some_iff.1 hj).1; rw [HCS.out.2.1.1.1] at this; exact this
   rw [Addr.add_lit, Nat.zero_add, own_cell HCS.out.2.1.1 j hjl, hj]⟩
  obtain ⟨j0, hj, hy0, hy1, hy2⟩ := info_parts exprInfo
  have HJ := Box.mk (And.intro hj (And.intro hy0 (And.intro hy1 hy2)))
  clear hj hy0 hy1 hy2
  have hs3 := HS.out.2.2
  have hklt : (k : Int) < (ks.length : Int) := by have := HK.out.2.1; omega
  go_upto_region 5 with (go_at_call 17; refine (around_any _ _ _ (by omega) (by omega) (by omega) (by omega)).mono ?_; rintro e w' ⟨rfl, rfl⟩; rw [HN.out])
  go_upto_region 6 with ((at_builtin; refine wpList_append_sp _ rfl _ _ 27 rfl 29 j0 _ 11 144 Tryd.underlying27 HJ.out.1 HJ.out.2.1 HJ.out.2.2.1 HJ.out.2.2.2 rfl (by decide) (fun _ _ => False) (.slice none 0 0) 0 [] rfl (OwnP.nil _ _ _ _) ⟨gk, 0, none⟩ ks.length n3 ((ks.zip cs).flatMap ndL) rfl HCS.out.2.1.1.1 HNEWS.out (nds_one HCS.out.1 fun i t c h1 h2 => (HCS.out.2.2 i t c h1 h2).tree) hlp (by unfold maxLen; omega) (by omega) ?_; intro g8 cap8 w8 hown8 hap8; simp only [Nat.zero_add, List.nil_append] at hown8 ⊢))
  have HG8 : Box (W.heap.size ≤ g8) := ⟨by
   rcases hown8.2 g8 cap8 rfl with ⟨h, _⟩ | h
   ·exact h.elim
   ·exact h⟩
  have HB8 : Box (Below W.heap.size W w8) := ⟨⟨hap8.os, hap8.tape, hap8.output, hap8.size, fun k hk => hap8.block k hk (fun h => h.elim)⟩⟩
  have HRW : Box (OwnP w8 (fun b _ => b = g8) 29 11 (.slice (some ⟨g8, 0, none⟩) ks.length cap8) ks.length ((ks.zip cs).flatMap ndL)) := ⟨hown8.1, fun g c hv => by cases hv; rfl⟩
  have HG8L : Box (g8 < w8.heap.size) := ⟨(row_blk HRW.out.1).choose_spec.1.lt⟩
  have HC8 := Box.mk (HC.out.below HB8.out)
  clear hown8 hap8 c0 c1 c2 c3 c4 c5 c6 c7 c8 c9 c10 cf HNEWS HJ
  obtain ⟨c0, c1, c2, c3, c4, c5, c6, c7, c8, c9, c10⟩ := blk11 HC8.out.e
  simp only [Nat.zero_add] at c1 c2 c3 c4 c5 c6 c7 c8 c9 c10
  have cf := HC8.out.e.frozen
  have hkm := HK.out.1
  obtain ⟨q, HQQ⟩ : ∃ q, Box (at'.tdiv 4 = q) := ⟨_, ⟨rfl⟩⟩
  have HQ : Box (I64 q) := ⟨by rw [← HQQ.out]; exact tdiv4 _ ha1 ha2⟩
  have hqq := HQQ.out
  have HQ64 : Box (wrap64 q = q) := ⟨by have := HQ.out; unfold I64 at this; unfold wrap64; omega⟩
  have hkw : IntKind.i64.wrap (n.tmod (ks.length : Int)) = (k : Int) := by rw [hkm]; exact W64_in (by omega) (by omega)
  have hlz : ¬ (ks.length : Int) = 0 := by omega
  have hlz2 : ¬ ks.length = 0 := by omega
  have hl1 : 1 ≤ (ks.length : Int) := by omega
  have hkc : k = 0 ∨ k = 1 := by have := HK.out.2.2; omega
  go_upto_region 7 with (fail)
  rcases hkc with rfl | rfl
  ·obtain ⟨x, hx⟩ : ∃ x, ks[0]? = some x := ⟨ks[0]'(by have := HK.out.2.1; omega), List.getElem?_eq_getElem _⟩
   obtain ⟨sx, hsx⟩ : ∃ x, cs[0]? = some x := ⟨cs[0]'(by have := HK.out.2.1; have := HCS.out.1; omega), List.getElem?_eq_getElem _⟩
   have hTx := HCS.out.2.2 0 x sx hx hsx
   obtain ⟨e, es⟩ := x
   obtain ⟨q1, q2, q3⟩ := sx
   obtain ⟨B1, m1, rfl, -⟩ := hTx.tree.nod.ms.form
   obtain ⟨B2, m2, rfl, -⟩ := hTx.tree.nod.bys.form
   obtain ⟨B3, m3, rfl, -⟩ := hTx.tree.nod.kform
   have HTX := Box.mk (hTx.belo HB8.out)
   have HMX : Box (Tree.node e es ∈ ks) := ⟨List.mem_of_getElem? hx⟩
   have HX := Box.mk (And.intro hx hsx)
   have HZX : Box ((ks.zip cs)[0]? = some (.node e es, .slice B1 e.ms.length m1, .slice B2 e.bys.length m2, .slice B3 es.length m3)) := ⟨by rw [List.getElem?_zip_eq_some]; exact ⟨hx, hsx⟩⟩
   have hkk : 0 < ks.length := by have := HK.out.2.1; omega
   clear hx hsx hTx
   have k0 : w8.cell? ⟨g8, 0, none⟩ = some (.int .i64 e.kind) := (own_cell HRW.out.1 0 (by omega)).trans ((flat_get ndL 11 (fun _ => rfl) (ks.zip cs) 0 0 _ HZX.out (by omega)).trans rfl)
   have k1 : w8.cell? ⟨g8, 1, none⟩ = some (.int .i64 e.fn) := (own_cell HRW.out.1 1 (by omega)).trans ((flat_get ndL 11 (fun _ => rfl) (ks.zip cs) 0 1 _ HZX.out (by omega)).trans rfl)
   have k2 : w8.cell? ⟨g8, 2, none⟩ = some (.int .i64 e.win) := (own_cell HRW.out.1 2 (by omega)).trans ((flat_get ndL 11 (fun _ => rfl) (ks.zip cs) 0 2 _ HZX.out (by omega)).trans rfl)
   have k3 : w8.cell? ⟨g8, 3, none⟩ = some (.int .i64 e.off) := (own_cell HRW.out.1 3 (by omega)).trans ((flat_get ndL 11 (fun _ => rfl) (ks.zip cs) 0 3 _ HZX.out (by omega)).trans rfl)
   have k4 : w8.cell? ⟨g8, 4, none⟩ = some (.int .i64 e.k) := (own_cell HRW.out.1 4 (by omega)).trans ((flat_get ndL 11 (fun _ => rfl) (ks.zip cs) 0 4 _ HZX.out (by omega)).trans rfl)
   have k5 : w8.cell? ⟨g8, 5, none⟩ = some (.int .i64 e.num) := (own_cell HRW.out.1 5 (by omega)).trans ((flat_get ndL 11 (fun _ => rfl) (ks.zip cs) 0 5 _ HZX.out (by omega)).trans rfl)
   have k6 : w8.cell? ⟨g8, 6, none⟩ = some (.int .i64 e.den) := (own_cell HRW.out.1 6 (by omega)).trans ((flat_get ndL 11 (fun _ => rfl) (ks.zip cs) 0 6 _ HZX.out (by omega)).trans rfl)
   have k7 : w8.cell? ⟨g8, 7, none⟩ = some (.string e.name) := (own_cell HRW.out.1 7 (by omega)).trans ((flat_get ndL 11 (fun _ => rfl) (ks.zip cs) 0 7 _ HZX.out (by omega)).trans rfl)
   have k8 : w8.cell? ⟨g8, 8, none⟩ = some (.slice B1 e.ms.length m1) := (own_cell HRW.out.1 8 (by omega)).trans ((flat_get ndL 11 (fun _ => rfl) (ks.zip cs) 0 8 _ HZX.out (by omega)).trans rfl)
   have k9 : w8.cell? ⟨g8, 9, none⟩ = some (.slice B2 e.bys.length m2) := (own_cell HRW.out.1 9 (by omega)).trans ((flat_get ndL 11 (fun _ => rfl) (ks.zip cs) 0 9 _ HZX.out (by omega)).trans rfl)
   have k10 : w8.cell? ⟨g8, 10, none⟩ = some (.slice B3 es.length m3) := (own_cell HRW.out.1 10 (by omega)).trans ((flat_get ndL 11 (fun _ => rfl) (ks.zip cs) 0 10 _ HZX.out (by omega)).trans rfl)
   go_wp2_with fail
   rw [HQ64.out]
   refine (IH.out (.node e es) HMX.out B H L q w8 (.slice B1 e.ms.length m1, .slice B2 e.bys.length m2, .slice B3 es.length m3) HTX.out (HGK.out _ HMX.out) (by have := HC8.out.fr.size; omega) HQ.out).mono ?_
   rintro e5 w9 ⟨t2, s2, rfl, ht2, hd2, hn2, hsp⟩
   obtain ⟨e2, es2⟩ := t2
   obtain ⟨r1, r2, r3⟩ := s2
   obtain ⟨C1, p1, rfl, -⟩ := ht2.nod.ms.form
   obtain ⟨C2, p2, rfl, -⟩ := ht2.nod.bys.form
   obtain ⟨C3, p3, rfl, -⟩ := ht2.nod.kform
   simp only [Tree.d]
   have HRW9 : Box (w9.ownsRow 0 29 11 (.slice (some ⟨g8, 0, none⟩) ks.length cap8) ks.length ((ks.zip cs).flatMap ndL)) := ⟨(OwnP.keep (w' := w9) HRW.out ⟨hsp.size, fun b e hb hl => by subst hb; exact hsp.block _ hl (.inr (by have := HG8.out; have := HC.out.fr.size; omega))⟩).1⟩
   have HC9 := Box.mk (HC8.out.spf hsp hH)
   have HT2 := Box.mk (And.intro ht2 (And.intro hd2 hn2))
   have HSZ := Box.mk hsp.size
   clear ht2 hd2 hn2 hsp k0 k1 k2 k3 k4 k5 k6 k7 k8 k9 k10 c0 c1 c2 c3 c4 c5 c6 c7 c8 c9 c10 cf HC8
   have k0 : w9.cell? ⟨g8, 0, none⟩ = some (.int .i64 e.kind) := (own_cell HRW9.out 0 (by omega)).trans ((flat_get ndL 11 (fun _ => rfl) (ks.zip cs) 0 0 _ HZX.out (by omega)).trans rfl)
   have k1 : w9.cell? ⟨g8, 1, none⟩ = some (.int .i64 e.fn) := (own_cell HRW9.out 1 (by omega)).trans ((flat_get ndL 11 (fun _ => rfl) (ks.zip cs) 0 1 _ HZX.out (by omega)).trans rfl)
   have k2 : w9.cell? ⟨g8, 2, none⟩ = some (.int .i64 e.win) := (own_cell HRW9.out 2 (by omega)).trans ((flat_get ndL 11 (fun _ => rfl) (ks.zip cs) 0 2 _ HZX.out (by omega)).trans rfl)
   have k3 : w9.cell? ⟨g8, 3, none⟩ = some (.int .i64 e.off) := (own_cell HRW9.out 3 (by omega)).trans ((flat_get ndL 11 (fun _ => rfl) (ks.zip cs) 0 3 _ HZX.out (by omega)).trans rfl)
   have k4 : w9.cell? ⟨g8, 4, none⟩ = some (.int .i64 e.k) := (own_cell HRW9.out 4 (by omega)).trans ((flat_get ndL 11 (fun _ => rfl) (ks.zip cs) 0 4 _ HZX.out (by omega)).trans rfl)
   have k5 : w9.cell? ⟨g8, 5, none⟩ = some (.int .i64 e.num) := (own_cell HRW9.out 5 (by omega)).trans ((flat_get ndL 11 (fun _ => rfl) (ks.zip cs) 0 5 _ HZX.out (by omega)).trans rfl)
   have k6 : w9.cell? ⟨g8, 6, none⟩ = some (.int .i64 e.den) := (own_cell HRW9.out 6 (by omega)).trans ((flat_get ndL 11 (fun _ => rfl) (ks.zip cs) 0 6 _ HZX.out (by omega)).trans rfl)
   have k7 : w9.cell? ⟨g8, 7, none⟩ = some (.string e.name) := (own_cell HRW9.out 7 (by omega)).trans ((flat_get ndL 11 (fun _ => rfl) (ks.zip cs) 0 7 _ HZX.out (by omega)).trans rfl)
   have k8 : w9.cell? ⟨g8, 8, none⟩ = some (.slice B1 e.ms.length m1) := (own_cell HRW9.out 8 (by omega)).trans ((flat_get ndL 11 (fun _ => rfl) (ks.zip cs) 0 8 _ HZX.out (by omega)).trans rfl)
   have k9 : w9.cell? ⟨g8, 9, none⟩ = some (.slice B2 e.bys.length m2) := (own_cell HRW9.out 9 (by omega)).trans ((flat_get ndL 11 (fun _ => rfl) (ks.zip cs) 0 9 _ HZX.out (by omega)).trans rfl)
   have k10 : w9.cell? ⟨g8, 10, none⟩ = some (.slice B3 es.length m3) := (own_cell HRW9.out 10 (by omega)).trans ((flat_get ndL 11 (fun _ => rfl) (ks.zip cs) 0 10 _ HZX.out (by omega)).trans rfl)
   have kf := (row_blk HRW9.out).choose_spec.1.frozen
   go_upto_region 8 with (fail)
   have HROW : Box ((putK w9 g8 0 (.int .i64 e2.kind) (.int .i64 e2.fn) (.int .i64 e2.win) (.int .i64 e2.off) (.int .i64 e2.k) (.int .i64 e2.num) (.int .i64 e2.den) (.string e2.name) (.slice C1 e2.ms.length p1) (.slice C2 e2.bys.length p2) (.slice C3 es2.length p3)).ownsRow 0 29 11 (.slice (some ⟨g8, 0, none⟩) ks.length cap8) ks.length (((ks.set 0 (.node e2 es2)).zip (cs.set 0 (.slice C1 e2.ms.length p1, .slice C2 e2.bys.length p2, .slice C3 es2.length p3))).flatMap ndL)) := ⟨by
    rw [set_zip]
    have h9 := HRW9.out
    obtain ⟨zs, hzs⟩ : ∃ zs, ks.zip cs = (.node e es, .slice B1 e.ms.length m1, .slice B2 e.bys.length m2, .slice B3 es.length m3) :: zs := by
     have := HZX.out
     cases hh : ks.zip cs with
     | nil => rw [hh] at this; simp at this
     | cons y ys => rw [hh] at this; simp at this; subst this; exact ⟨ys, rfl⟩
    rw [hzs] at h9 ⊢
    exact row_set0 (y := (.node e2 es2, .slice C1 e2.ms.length p1, .slice C2 e2.bys.length p2, .slice C3 es2.length p3)) h9⟩
   have HO : Box (Only g8 w9 (putK w9 g8 0 (.int .i64 e2.kind) (.int .i64 e2.fn) (.int .i64 e2.win) (.int .i64 e2.off) (.int .i64 e2.k) (.int .i64 e2.num) (.int .i64 e2.den) (.string e2.name) (.slice C1 e2.ms.length p1) (.slice C2 e2.bys.length p2) (.slice C3 es2.length p3))) := ⟨putK_only ..⟩
   have HC10 := Box.mk (HC9.out.only HO.out (by have := HG8.out; have := HC.out.z.lt; omega))
   have HT3 : Box (TreeAt (putK w9 g8 0 (.int .i64 e2.kind) (.int .i64 e2.fn) (.int .i64 e2.win) (.int .i64 e2.off) (.int .i64 e2.k) (.int .i64 e2.num) (.int .i64 e2.den) (.string e2.name) (.slice C1 e2.ms.length p1) (.slice C2 e2.bys.length p2) (.slice C3 es2.length p3)) (FrP H w8.heap.size) (.node e2 es2) (.slice C1 e2.ms.length p1, .slice C2 e2.bys.length p2, .slice C3 es2.length p3)) := ⟨(HT2.out.1.keep (Agree.of_only HO.out fun b e hp => by have := HG8.out; have := HG8L.out; have := HC.out.fr.size; rcases hp with hp | hp <;> omega))⟩
   show Code.wp _ _ _ _ (putK w9 g8 0 (.int .i64 e2.kind) (.int .i64 e2.fn) (.int .i64 e2.win) (.int .i64 e2.off) (.int .i64 e2.k) (.int .i64 e2.num) (.int .i64 e2.den) (.string e2.name) (.slice C1 e2.ms.length p1) (.slice C2 e2.bys.length p2) (.slice C3 es2.length p3))
   generalize (putK w9 g8 0 (.int .i64 e2.kind) (.int .i64 e2.fn) (.int .i64 e2.win) (.int .i64 e2.off) (.int .i64 e2.k) (.int .i64 e2.num) (.int .i64 e2.den) (.string e2.name) (.slice C1 e2.ms.length p1) (.slice C2 e2.bys.length p2) (.slice C3 es2.length p3)) = W10 at HROW HC10 HT3 HO ⊢
   clear k0 k1 k2 k3 k4 k5 k6 k7 k8 k9 k10 kf HC9
   obtain ⟨c0, c1, c2, c3, c4, c5, c6, c7, c8, c9, c10⟩ := blk11 HC10.out.e
   simp only [Nat.zero_add] at c1 c2 c3 c4 c5 c6 c7 c8 c9 c10
   have cf := HC10.out.e.frozen
   obtain ⟨z0, z1, z2, z3, z4, z5, z6, z7, z8, z9, z10⟩ := blk11 HC10.out.z
   simp only [Nat.zero_add] at z1 z2 z3 z4 z5 z6 z7 z8 z9 z10
   have zf := HC10.out.z.frozen
   go_wp2_with fail
   have HC11 := Box.mk (HC10.out.set 10 (.slice (some ⟨g8, 0, none⟩) ks.length cap8) (d' := d) (mv' := .slice A1 d.ms.length n1) (bv' := .slice A2 d.bys.length n2) (kv' := (.slice (some ⟨g8, 0, none⟩) ks.length cap8)) rfl)
   have HO2 : Box (Only (w.heap.size + 1) (W10.setCell ⟨w.heap.size, 10, none⟩ (.slice (some ⟨g8, 0, none⟩) ks.length cap8)) (put11 (W10.setCell ⟨w.heap.size, 10, none⟩ (.slice (some ⟨g8, 0, none⟩) ks.length cap8)) (w.heap.size + 1) (.int .i64 d.kind) (.int .i64 d.fn) (.int .i64 d.win) (.int .i64 d.off) (.int .i64 d.k) (.int .i64 d.num) (.int .i64 d.den) (.string d.name) (.slice A1 d.ms.length n1) (.slice A2 d.bys.length n2) (.slice (some ⟨g8, 0, none⟩) ks.length cap8))) := ⟨put11_only ..⟩
   have HF : Box (Blk (put11 (W10.setCell ⟨w.heap.size, 10, none⟩ (.slice (some ⟨g8, 0, none⟩) ks.length cap8)) (w.heap.size + 1) (.int .i64 d.kind) (.int .i64 d.fn) (.int .i64 d.win) (.int .i64 d.off) (.int .i64 d.k) (.int .i64 d.num) (.int .i64 d.den) (.string d.name) (.slice A1 d.ms.length n1) (.slice A2 d.bys.length n2) (.slice (some ⟨g8, 0, none⟩) ks.length cap8)) (w.heap.size + 1) 29 (ndC d (.slice A1 d.ms.length n1) (.slice A2 d.bys.length n2) (.slice (some ⟨g8, 0, none⟩) ks.length cap8))) := ⟨put11_blk HC11.out.z⟩
   have HSP : Box (SpF B H L w (put11 (W10.setCell ⟨w.heap.size, 10, none⟩ (.slice (some ⟨g8, 0, none⟩) ks.length cap8)) (w.heap.size + 1) (.int .i64 d.kind) (.int .i64 d.fn) (.int .i64 d.win) (.int .i64 d.off) (.int .i64 d.k) (.int .i64 d.num) (.int .i64 d.den) (.string d.name) (.slice A1 d.ms.length n1) (.slice A2 d.bys.length n2) (.slice (some ⟨g8, 0, none⟩) ks.length cap8))) := ⟨HC11.out.fr.then_below (put11_below (by omega) ..)⟩
   have HN1 : Box (Nod (put11 (W10.setCell ⟨w.heap.size, 10, none⟩ (.slice (some ⟨g8, 0, none⟩) ks.length cap8)) (w.heap.size + 1) (.int .i64 d.kind) (.int .i64 d.fn) (.int .i64 d.win) (.int .i64 d.off) (.int .i64 d.k) (.int .i64 d.num) (.int .i64 d.den) (.string d.name) (.slice A1 d.ms.length n1) (.slice A2 d.bys.length n2) (.slice (some ⟨g8, 0, none⟩) ks.length cap8)) (FrP H w.heap.size) d ks (.slice A1 d.ms.length n1) (.slice A2 d.bys.length n2) (.slice (some ⟨gk, 0, none⟩) ks.length n3)) := ⟨((HT.out.tree.keep HSP.out.agree).mono fun _ _ _ hp => .inl hp.2.1).nod⟩
   have HFAR : Box (∀ b, b ≠ w.heap.size → b ≠ w.heap.size + 1 → b < W10.heap.size → (put11 (W10.setCell ⟨w.heap.size, 10, none⟩ (.slice (some ⟨g8, 0, none⟩) ks.length cap8)) (w.heap.size + 1) (.int .i64 d.kind) (.int .i64 d.fn) (.int .i64 d.win) (.int .i64 d.off) (.int .i64 d.k) (.int .i64 d.num) (.int .i64 d.den) (.string d.name) (.slice A1 d.ms.length n1) (.slice A2 d.bys.length n2) (.slice (some ⟨g8, 0, none⟩) ks.length cap8)).heap[b]? = W10.heap[b]?) := ⟨fun b h1 h2 h3 => (HO2.out.block b (by simpa [World.setCell] using h3) h2).trans ((Only.setCell (g := w.heap.size) 10 (.slice (some ⟨g8, 0, none⟩) ks.length cap8)).block b h3 h1)⟩
   have HSZ2 : Box (W10.heap.size ≤ (put11 (W10.setCell ⟨w.heap.size, 10, none⟩ (.slice (some ⟨g8, 0, none⟩) ks.length cap8)) (w.heap.size + 1) (.int .i64 d.kind) (.int .i64 d.fn) (.int .i64 d.win) (.int .i64 d.off) (.int .i64 d.k) (.int .i64 d.num) (.int .i64 d.den) (.string d.name) (.slice A1 d.ms.length n1) (.slice A2 d.bys.length n2) (.slice (some ⟨g8, 0, none⟩) ks.length cap8)).heap.size) := ⟨Nat.le_trans (by simp [World.setCell]) HO2.out.size⟩
   have HKS : Box (SeqP (put11 (W10.setCell ⟨w.heap.size, 10, none⟩ (.slice (some ⟨g8, 0, none⟩) ks.length cap8)) (w.heap.size + 1) (.int .i64 d.kind) (.int .i64 d.fn) (.int .i64 d.win) (.int .i64 d.off) (.int .i64 d.k) (.int .i64 d.num) (.int .i64 d.den) (.string d.name) (.slice A1 d.ms.length n1) (.slice A2 d.bys.length n2) (.slice (some ⟨g8, 0, none⟩) ks.length cap8)) (FrP H w.heap.size) 11 (.slice (some ⟨g8, 0, none⟩) ks.length cap8) ks.length (((ks.set 0 (.node e2 es2)).zip (cs.set 0 (.slice C1 e2.ms.length p1, .slice C2 e2.bys.length p2, .slice C3 es2.length p3))).flatMap ndL)) := ⟨by
    have h1 : OwnP W10 (fun b _ => b = g8) 29 11 (.slice (some ⟨g8, 0, none⟩) ks.length cap8) ks.length (((ks.set 0 (.node e2 es2)).zip (cs.set 0 (.slice C1 e2.ms.length p1, .slice C2 e2.bys.length p2, .slice C3 es2.length p3))).flatMap ndL) := ⟨HROW.out, fun g c hv => by cases hv; rfl⟩
    have h2 := h1.keep (w' := (put11 (W10.setCell ⟨w.heap.size, 10, none⟩ (.slice (some ⟨g8, 0, none⟩) ks.length cap8)) (w.heap.size + 1) (.int .i64 d.kind) (.int .i64 d.fn) (.int .i64 d.win) (.int .i64 d.off) (.int .i64 d.k) (.int .i64 d.num) (.int .i64 d.den) (.string d.name) (.slice A1 d.ms.length n1) (.slice A2 d.bys.length n2) (.slice (some ⟨g8, 0, none⟩) ks.length cap8))) ⟨HSZ2.out, fun b e hb hl => HFAR.out b (by have := HG8.out; have := HC.out.z.lt; omega) (by have := HG8.out; have := HC.out.z.lt; omega) hl⟩
    exact h2.seq.mono fun b e _ hb => .inr (by have := HG8.out; have := HC.out.z.lt; omega)⟩
   have HT4 : Box (TreeAt (put11 (W10.setCell ⟨w.heap.size, 10, none⟩ (.slice (some ⟨g8, 0, none⟩) ks.length cap8)) (w.heap.size + 1) (.int .i64 d.kind) (.int .i64 d.fn) (.int .i64 d.win) (.int .i64 d.off) (.int .i64 d.k) (.int .i64 d.num) (.int .i64 d.den) (.string d.name) (.slice A1 d.ms.length n1) (.slice A2 d.bys.length n2) (.slice (some ⟨g8, 0, none⟩) ks.length cap8)) (FrP H w.heap.size) (.node e2 es2) (.slice C1 e2.ms.length p1, .slice C2 e2.bys.length p2, .slice C3 es2.length p3)) := ⟨by
    have hz := HC.out.z.lt
    have h8 := HB8.out.size
    refine (HT3.out.keep (w' := (put11 (W10.setCell ⟨w.heap.size, 10, none⟩ (.slice (some ⟨g8, 0, none⟩) ks.length cap8)) (w.heap.size + 1) (.int .i64 d.kind) (.int .i64 d.fn) (.int .i64 d.win) (.int .i64 d.off) (.int .i64 d.k) (.int .i64 d.num) (.int .i64 d.den) (.string d.name) (.slice A1 d.ms.length n1) (.slice A2 d.bys.length n2) (.slice (some ⟨g8, 0, none⟩) ks.length cap8))) ⟨HSZ2.out, fun b e o hp hl ho => World.cell?_of_block (a := ⟨b, o, none⟩) (HFAR.out b ?_ ?_ hl)⟩).mono ?_
    ·rcases hp with hp | hp <;> omega
    ·rcases hp with hp | hp <;> omega
    ·intro b e _ hp
     rcases hp with hp | hp
     ·exact .inl hp
     ·exact .inr (by omega)⟩
   show bodyPost _ _ _ _ _ (put11 (W10.setCell ⟨w.heap.size, 10, none⟩ (.slice (some ⟨g8, 0, none⟩) ks.length cap8)) (w.heap.size + 1) (.int .i64 d.kind) (.int .i64 d.fn) (.int .i64 d.win) (.int .i64 d.off) (.int .i64 d.k) (.int .i64 d.num) (.int .i64 d.den) (.string d.name) (.slice A1 d.ms.length n1) (.slice A2 d.bys.length n2) (.slice (some ⟨g8, 0, none⟩) ks.length cap8))
   generalize (put11 (W10.setCell ⟨w.heap.size, 10, none⟩ (.slice (some ⟨g8, 0, none⟩) ks.length cap8)) (w.heap.size + 1) (.int .i64 d.kind) (.int .i64 d.fn) (.int .i64 d.win) (.int .i64 d.off) (.int .i64 d.k) (.int .i64 d.num) (.int .i64 d.den) (.string d.name) (.slice A1 d.ms.length n1) (.slice A2 d.bys.length n2) (.slice (some ⟨g8, 0, none⟩) ks.length cap8)) = WF at HF HSP HN1 HKS HT4 ⊢
   clear z0 z1 z2 z3 z4 z5 z6 z7 z8 z9 z10 zf c0 c1 c2 c3 c4 c5 c6 c7 c8 c9 c10 cf HFAR HO2 HSZ2
   obtain ⟨e0, e1, e2', e3, e4, e5, e6, e7, e8, e9, e10⟩ := blk11 HF.out
   simp only [Nat.zero_add] at e1 e2' e3 e4 e5 e6 e7 e8 e9 e10
   have ef := HF.out.frozen
   refine bodyPost_ret (v := .agg (ndC d (.slice A1 d.ms.length n1) (.slice A2 d.bys.length n2) (.slice (some ⟨g8, 0, none⟩) ks.length cap8))) (by simp [results, Tryd.results10, go_sem, e0, e1, e2', e3, e4, e5, e6, e7, e8, e9, e10, ef]) rfl ?_
   refine ⟨.node d (ks.set 0 (.node e2 es2)), (.slice A1 d.ms.length n1, .slice A2 d.bys.length n2, (.slice (some ⟨g8, 0, none⟩) ks.length cap8)), rfl, Nod.tree ⟨HN1.out.ok, HN1.out.ms, HN1.out.bys, cs.set 0 (.slice C1 e2.ms.length p1, .slice C2 e2.bys.length p2, .slice C3 es2.length p3), by simp [HCS.out.1], by simpa using HKS.out, fun i t' c h1 h2 => ?_⟩, ?_, ?_, HSP.out⟩
   ·by_cases hi : i = 0
    ·subst hi
     rw [List.getElem?_set_self hkk] at h1
     rw [List.getElem?_set_self (by rw [HCS.out.1]; exact hkk)] at h2
     cases h1; cases h2
     exact HT4.out
    ·rw [List.getElem?_set_ne (Ne.symm hi)] at h1 h2
     exact ((HCW.out i t' c h1 h2).tree.keep HSP.out.agree).mono fun _ _ _ hp => .inl hp.2.1
   ·rw [dep, dep]; have := depL_set ks 0 _ (.node e2 es2) HX.out.1 HT2.out.2.1; omega
   ·rw [nds, nds]; have := ndsL_set ks 0 _ (.node e2 es2) HX.out.1 HT2.out.2.2; omega
  ·obtain ⟨x, hx⟩ : ∃ x, ks[1]? = some x := ⟨ks[1]'(by have := HK.out.2.1; omega), List.getElem?_eq_getElem _⟩
   obtain ⟨sx, hsx⟩ : ∃ x, cs[1]? = some x := ⟨cs[1]'(by have := HK.out.2.1; have := HCS.out.1; omega), List.getElem?_eq_getElem _⟩
   have hTx := HCS.out.2.2 1 x sx hx hsx
   obtain ⟨e, es⟩ := x
   obtain ⟨q1, q2, q3⟩ := sx
   obtain ⟨B1, m1, rfl, -⟩ := hTx.tree.nod.ms.form
   obtain ⟨B2, m2, rfl, -⟩ := hTx.tree.nod.bys.form
   obtain ⟨B3, m3, rfl, -⟩ := hTx.tree.nod.kform
   have HTX := Box.mk (hTx.belo HB8.out)
   have HMX : Box (Tree.node e es ∈ ks) := ⟨List.mem_of_getElem? hx⟩
   have HX := Box.mk (And.intro hx hsx)
   have HZX : Box ((ks.zip cs)[1]? = some (.node e es, .slice B1 e.ms.length m1, .slice B2 e.bys.length m2, .slice B3 es.length m3)) := ⟨by rw [List.getElem?_zip_eq_some]; exact ⟨hx, hsx⟩⟩
   have hkk : 1 < ks.length := by have := HK.out.2.1; omega
   clear hx hsx hTx
   have k0 : w8.cell? ⟨g8, 11, none⟩ = some (.int .i64 e.kind) := (own_cell HRW.out.1 11 (by omega)).trans ((flat_get ndL 11 (fun _ => rfl) (ks.zip cs) 1 0 _ HZX.out (by omega)).trans rfl)
   have k1 : w8.cell? ⟨g8, 12, none⟩ = some (.int .i64 e.fn) := (own_cell HRW.out.1 12 (by omega)).trans ((flat_get ndL 11 (fun _ => rfl) (ks.zip cs) 1 1 _ HZX.out (by omega)).trans rfl)
   have k2 : w8.cell? ⟨g8, 13, none⟩ = some (.int .i64 e.win) := (own_cell HRW.out.1 13 (by omega)).trans ((flat_get ndL 11 (fun _ => rfl) (ks.zip cs) 1 2 _ HZX.out (by omega)).trans rfl)
   have k3 : w8.cell? ⟨g8, 14, none⟩ = some (.int .i64 e.off) := (own_cell HRW.out.1 14 (by omega)).trans ((flat_get ndL 11 (fun _ => rfl) (ks.zip cs) 1 3 _ HZX.out (by omega)).trans rfl)
   have k4 : w8.cell? ⟨g8, 15, none⟩ = some (.int .i64 e.k) := (own_cell HRW.out.1 15 (by omega)).trans ((flat_get ndL 11 (fun _ => rfl) (ks.zip cs) 1 4 _ HZX.out (by omega)).trans rfl)
   have k5 : w8.cell? ⟨g8, 16, none⟩ = some (.int .i64 e.num) := (own_cell HRW.out.1 16 (by omega)).trans ((flat_get ndL 11 (fun _ => rfl) (ks.zip cs) 1 5 _ HZX.out (by omega)).trans rfl)
   have k6 : w8.cell? ⟨g8, 17, none⟩ = some (.int .i64 e.den) := (own_cell HRW.out.1 17 (by omega)).trans ((flat_get ndL 11 (fun _ => rfl) (ks.zip cs) 1 6 _ HZX.out (by omega)).trans rfl)
   have k7 : w8.cell? ⟨g8, 18, none⟩ = some (.string e.name) := (own_cell HRW.out.1 18 (by omega)).trans ((flat_get ndL 11 (fun _ => rfl) (ks.zip cs) 1 7 _ HZX.out (by omega)).trans rfl)
   have k8 : w8.cell? ⟨g8, 19, none⟩ = some (.slice B1 e.ms.length m1) := (own_cell HRW.out.1 19 (by omega)).trans ((flat_get ndL 11 (fun _ => rfl) (ks.zip cs) 1 8 _ HZX.out (by omega)).trans rfl)
   have k9 : w8.cell? ⟨g8, 20, none⟩ = some (.slice B2 e.bys.length m2) := (own_cell HRW.out.1 20 (by omega)).trans ((flat_get ndL 11 (fun _ => rfl) (ks.zip cs) 1 9 _ HZX.out (by omega)).trans rfl)
   have k10 : w8.cell? ⟨g8, 21, none⟩ = some (.slice B3 es.length m3) := (own_cell HRW.out.1 21 (by omega)).trans ((flat_get ndL 11 (fun _ => rfl) (ks.zip cs) 1 10 _ HZX.out (by omega)).trans rfl)
   go_wp2_with fail
   rw [HQ64.out]
   refine (IH.out (.node e es) HMX.out B H L q w8 (.slice B1 e.ms.length m1, .slice B2 e.bys.length m2, .slice B3 es.length m3) HTX.out (HGK.out _ HMX.out) (by have := HC8.out.fr.size; omega) HQ.out).mono ?_
   rintro e5 w9 ⟨t2, s2, rfl, ht2, hd2, hn2, hsp⟩
   obtain ⟨e2, es2⟩ := t2
   obtain ⟨r1, r2, r3⟩ := s2
   obtain ⟨C1, p1, rfl, -⟩ := ht2.nod.ms.form
   obtain ⟨C2, p2, rfl, -⟩ := ht2.nod.bys.form
   obtain ⟨C3, p3, rfl, -⟩ := ht2.nod.kform
   simp only [Tree.d]
   have HRW9 : Box (w9.ownsRow 0 29 11 (.slice (some ⟨g8, 0, none⟩) ks.length cap8) ks.length ((ks.zip cs).flatMap ndL)) := ⟨(OwnP.keep (w' := w9) HRW.out ⟨hsp.size, fun b e hb hl => by subst hb; exact hsp.block _ hl (.inr (by have := HG8.out; have := HC.out.fr.size; omega))⟩).1⟩
   have HC9 := Box.mk (HC8.out.spf hsp hH)
   have HT2 := Box.mk (And.intro ht2 (And.intro hd2 hn2))
   have HSZ := Box.mk hsp.size
   clear ht2 hd2 hn2 hsp k0 k1 k2 k3 k4 k5 k6 k7 k8 k9 k10 c0 c1 c2 c3 c4 c5 c6 c7 c8 c9 c10 cf HC8
   have k0 : w9.cell? ⟨g8, 11, none⟩ = some (.int .i64 e.kind) := (own_cell HRW9.out 11 (by omega)).trans ((flat_get ndL 11 (fun _ => rfl) (ks.zip cs) 1 0 _ HZX.out (by omega)).trans rfl)
   have k1 : w9.cell? ⟨g8, 12, none⟩ = some (.int .i64 e.fn) := (own_cell HRW9.out 12 (by omega)).trans ((flat_get ndL 11 (fun _ => rfl) (ks.zip cs) 1 1 _ HZX.out (by omega)).trans rfl)
   have k2 : w9.cell? ⟨g8, 13, none⟩ = some (.int .i64 e.win) := (own_cell HRW9.out 13 (by omega)).trans ((flat_get ndL 11 (fun _ => rfl) (ks.zip cs) 1 2 _ HZX.out (by omega)).trans rfl)
   have k3 : w9.cell? ⟨g8, 14, none⟩ = some (.int .i64 e.off) := (own_cell HRW9.out 14 (by omega)).trans ((flat_get ndL 11 (fun _ => rfl) (ks.zip cs) 1 3 _ HZX.out (by omega)).trans rfl)
   have k4 : w9.cell? ⟨g8, 15, none⟩ = some (.int .i64 e.k) := (own_cell HRW9.out 15 (by omega)).trans ((flat_get ndL 11 (fun _ => rfl) (ks.zip cs) 1 4 _ HZX.out (by omega)).trans rfl)
   have k5 : w9.cell? ⟨g8, 16, none⟩ = some (.int .i64 e.num) := (own_cell HRW9.out 16 (by omega)).trans ((flat_get ndL 11 (fun _ => rfl) (ks.zip cs) 1 5 _ HZX.out (by omega)).trans rfl)
   have k6 : w9.cell? ⟨g8, 17, none⟩ = some (.int .i64 e.den) := (own_cell HRW9.out 17 (by omega)).trans ((flat_get ndL 11 (fun _ => rfl) (ks.zip cs) 1 6 _ HZX.out (by omega)).trans rfl)
   have k7 : w9.cell? ⟨g8, 18, none⟩ = some (.string e.name) := (own_cell HRW9.out 18 (by omega)).trans ((flat_get ndL 11 (fun _ => rfl) (ks.zip cs) 1 7 _ HZX.out (by omega)).trans rfl)
   have k8 : w9.cell? ⟨g8, 19, none⟩ = some (.slice B1 e.ms.length m1) := (own_cell HRW9.out 19 (by omega)).trans ((flat_get ndL 11 (fun _ => rfl) (ks.zip cs) 1 8 _ HZX.out (by omega)).trans rfl)
   have k9 : w9.cell? ⟨g8, 20, none⟩ = some (.slice B2 e.bys.length m2) := (own_cell HRW9.out 20 (by omega)).trans ((flat_get ndL 11 (fun _ => rfl) (ks.zip cs) 1 9 _ HZX.out (by omega)).trans rfl)
   have k10 : w9.cell? ⟨g8, 21, none⟩ = some (.slice B3 es.length m3) := (own_cell HRW9.out 21 (by omega)).trans ((flat_get ndL 11 (fun _ => rfl) (ks.zip cs) 1 10 _ HZX.out (by omega)).trans rfl)
   have kf := (row_blk HRW9.out).choose_spec.1.frozen
   go_upto_region 8 with (fail)
   have HROW : Box ((putK w9 g8 11 (.int .i64 e2.kind) (.int .i64 e2.fn) (.int .i64 e2.win) (.int .i64 e2.off) (.int .i64 e2.k) (.int .i64 e2.num) (.int .i64 e2.den) (.string e2.name) (.slice C1 e2.ms.length p1) (.slice C2 e2.bys.length p2) (.slice C3 es2.length p3)).ownsRow 0 29 11 (.slice (some ⟨g8, 0, none⟩) ks.length cap8) ks.length (((ks.set 1 (.node e2 es2)).zip (cs.set 1 (.slice C1 e2.ms.length p1, .slice C2 e2.bys.length p2, .slice C3 es2.length p3))).flatMap ndL)) := ⟨by
    rw [set_zip]
    have h9 := HRW9.out
    obtain ⟨z0, zs, hzs⟩ : ∃ z0 zs, ks.zip cs = z0 :: (.node e es, .slice B1 e.ms.length m1, .slice B2 e.bys.length m2, .slice B3 es.length m3) :: zs := by
     have := HZX.out
     cases hh : ks.zip cs with
     | nil => rw [hh] at this; simp at this
     | cons y ys =>
      rw [hh] at this
      cases ys with
      | nil => simp at this
      | cons y2 ys => simp at this; subst this; exact ⟨y, ys, rfl⟩
    rw [hzs] at h9 ⊢
    exact row_set1 (y := (.node e2 es2, .slice C1 e2.ms.length p1, .slice C2 e2.bys.length p2, .slice C3 es2.length p3)) h9⟩
   have HO : Box (Only g8 w9 (putK w9 g8 11 (.int .i64 e2.kind) (.int .i64 e2.fn) (.int .i64 e2.win) (.int .i64 e2.off) (.int .i64 e2.k) (.int .i64 e2.num) (.int .i64 e2.den) (.string e2.name) (.slice C1 e2.ms.length p1) (.slice C2 e2.bys.length p2) (.slice C3 es2.length p3))) := ⟨putK_only ..⟩
   have HC10 := Box.mk (HC9.out.only HO.out (by have := HG8.out; have := HC.out.z.lt; omega))
   have HT3 : Box (TreeAt (putK w9 g8 11 (.int .i64 e2.kind) (.int .i64 e2.fn) (.int .i64 e2.win) (.int .i64 e2.off) (.int .i64 e2.k) (.int .i64 e2.num) (.int .i64 e2.den) (.string e2.name) (.slice C1 e2.ms.length p1) (.slice C2 e2.bys.length p2) (.slice C3 es2.length p3)) (FrP H w8.heap.size) (.node e2 es2) (.slice C1 e2.ms.length p1, .slice C2 e2.bys.length p2, .slice C3 es2.length p3)) := ⟨(HT2.out.1.keep (Agree.of_only HO.out fun b e hp => by have := HG8.out; have := HG8L.out; have := HC.out.fr.size; rcases hp with hp | hp <;> omega))⟩
   show Code.wp _ _ _ _ (putK w9 g8 11 (.int .i64 e2.kind) (.int .i64 e2.fn) (.int .i64 e2.win) (.int .i64 e2.off) (.int .i64 e2.k) (.int .i64 e2.num) (.int .i64 e2.den) (.string e2.name) (.slice C1 e2.ms.length p1) (.slice C2 e2.bys.length p2) (.slice C3 es2.length p3))
   generalize (putK w9 g8 11 (.int .i64 e2.kind) (.int .i64 e2.fn) (.int .i64 e2.win) (.int .i64 e2.off) (.int .i64 e2.k) (.int .i64 e2.num) (.int .i64 e2.den) (.string e2.name) (.slice C1 e2.ms.length p1) (.slice C2 e2.bys.length p2) (.slice C3 es2.length p3)) = W10 at HROW HC10 HT3 HO ⊢
   clear k0 k1 k2 k3 k4 k5 k6 k7 k8 k9 k10 kf HC9
   obtain ⟨c0, c1, c2, c3, c4, c5, c6, c7, c8, c9, c10⟩ := blk11 HC10.out.e
   simp only [Nat.zero_add] at c1 c2 c3 c4 c5 c6 c7 c8 c9 c10
   have cf := HC10.out.e.frozen
   obtain ⟨z0, z1, z2, z3, z4, z5, z6, z7, z8, z9, z10⟩ := blk11 HC10.out.z
   simp only [Nat.zero_add] at z1 z2 z3 z4 z5 z6 z7 z8 z9 z10
   have zf := HC10.out.z.frozen
   go_wp2_with fail
   have HC11 := Box.mk (HC10.out.set 10 (.slice (some ⟨g8, 0, none⟩) ks.length cap8) (d' := d) (mv' := .slice A1 d.ms.length n1) (bv' := .slice A2 d.bys.length n2) (kv' := (.slice (some ⟨g8, 0, none⟩) ks.length cap8)) rfl)
   have HO2 : Box (Only (w.heap.size + 1) (W10.setCell ⟨w.heap.size, 10, none⟩ (.slice (some ⟨g8, 0, none⟩) ks.length cap8)) (put11 (W10.setCell ⟨w.heap.size, 10, none⟩ (.slice (some ⟨g8, 0, none⟩) ks.length cap8)) (w.heap.size + 1) (.int .i64 d.kind) (.int .i64 d.fn) (.int .i64 d.win) (.int .i64 d.off) (.int .i64 d.k) (.int .i64 d.num) (.int .i64 d.den) (.string d.name) (.slice A1 d.ms.length n1) (.slice A2 d.bys.length n2) (.slice (some ⟨g8, 0, none⟩) ks.length cap8))) := ⟨put11_only ..⟩
   have HF : Box (Blk (put11 (W10.setCell ⟨w.heap.size, 10, none⟩ (.slice (some ⟨g8, 0, none⟩) ks.length cap8)) (w.heap.size + 1) (.int .i64 d.kind) (.int .i64 d.fn) (.int .i64 d.win) (.int .i64 d.off) (.int .i64 d.k) (.int .i64 d.num) (.int .i64 d.den) (.string d.name) (.slice A1 d.ms.length n1) (.slice A2 d.bys.length n2) (.slice (some ⟨g8, 0, none⟩) ks.length cap8)) (w.heap.size + 1) 29 (ndC d (.slice A1 d.ms.length n1) (.slice A2 d.bys.length n2) (.slice (some ⟨g8, 0, none⟩) ks.length cap8))) := ⟨put11_blk HC11.out.z⟩
   have HSP : Box (SpF B H L w (put11 (W10.setCell ⟨w.heap.size, 10, none⟩ (.slice (some ⟨g8, 0, none⟩) ks.length cap8)) (w.heap.size + 1) (.int .i64 d.kind) (.int .i64 d.fn) (.int .i64 d.win) (.int .i64 d.off) (.int .i64 d.k) (.int .i64 d.num) (.int .i64 d.den) (.string d.name) (.slice A1 d.ms.length n1) (.slice A2 d.bys.length n2) (.slice (some ⟨g8, 0, none⟩) ks.length cap8))) := ⟨HC11.out.fr.then_below (put11_below (by omega) ..)⟩
   have HN1 : Box (Nod (put11 (W10.setCell ⟨w.heap.size, 10, none⟩ (.slice (some ⟨g8, 0, none⟩) ks.length cap8)) (w.heap.size + 1) (.int .i64 d.kind) (.int .i64 d.fn) (.int .i64 d.win) (.int .i64 d.off) (.int .i64 d.k) (.int .i64 d.num) (.int .i64 d.den) (.string d.name) (.slice A1 d.ms.length n1) (.slice A2 d.bys.length n2) (.slice (some ⟨g8, 0, none⟩) ks.length cap8)) (FrP H w.heap.size) d ks (.slice A1 d.ms.length n1) (.slice A2 d.bys.length n2) (.slice (some ⟨gk, 0, none⟩) ks.length n3)) := ⟨((HT.out.tree.keep HSP.out.agree).mono fun _ _ _ hp => .inl hp.2.1).nod⟩
   have HFAR : Box (∀ b, b ≠ w.heap.size → b ≠ w.heap.size + 1 → b < W10.heap.size → (put11 (W10.setCell ⟨w.heap.size, 10, none⟩ (.slice (some ⟨g8, 0, none⟩) ks.length cap8)) (w.heap.size + 1) (.int .i64 d.kind) (.int .i64 d.fn) (.int .i64 d.win) (.int .i64 d.off) (.int .i64 d.k) (.int .i64 d.num) (.int .i64 d.den) (.string d.name) (.slice A1 d.ms.length n1) (.slice A2 d.bys.length n2) (.slice (some ⟨g8, 0, none⟩) ks.length cap8)).heap[b]? = W10.heap[b]?) := ⟨fun b h1 h2 h3 => (HO2.out.block b (by simpa [World.setCell] using h3) h2).trans ((Only.setCell (g := w.heap.size) 10 (.slice (some ⟨g8, 0, none⟩) ks.length cap8)).block b h3 h1)⟩
   have HSZ2 : Box (W10.heap.size ≤ (put11 (W10.setCell ⟨w.heap.size, 10, none⟩ (.slice (some ⟨g8, 0, none⟩) ks.length cap8)) (w.heap.size + 1) (.int .i64 d.kind) (.int .i64 d.fn) (.int .i64 d.win) (.int .i64 d.off) (.int .i64 d.k) (.int .i64 d.num) (.int .i64 d.den) (.string d.name) (.slice A1 d.ms.length n1) (.slice A2 d.bys.length n2) (.slice (some ⟨g8, 0, none⟩) ks.length cap8)).heap.size) := ⟨Nat.le_trans (by simp [World.setCell]) HO2.out.size⟩
   have HKS : Box (SeqP (put11 (W10.setCell ⟨w.heap.size, 10, none⟩ (.slice (some ⟨g8, 0, none⟩) ks.length cap8)) (w.heap.size + 1) (.int .i64 d.kind) (.int .i64 d.fn) (.int .i64 d.win) (.int .i64 d.off) (.int .i64 d.k) (.int .i64 d.num) (.int .i64 d.den) (.string d.name) (.slice A1 d.ms.length n1) (.slice A2 d.bys.length n2) (.slice (some ⟨g8, 0, none⟩) ks.length cap8)) (FrP H w.heap.size) 11 (.slice (some ⟨g8, 0, none⟩) ks.length cap8) ks.length (((ks.set 1 (.node e2 es2)).zip (cs.set 1 (.slice C1 e2.ms.length p1, .slice C2 e2.bys.length p2, .slice C3 es2.length p3))).flatMap ndL)) := ⟨by
    have h1 : OwnP W10 (fun b _ => b = g8) 29 11 (.slice (some ⟨g8, 0, none⟩) ks.length cap8) ks.length (((ks.set 1 (.node e2 es2)).zip (cs.set 1 (.slice C1 e2.ms.length p1, .slice C2 e2.bys.length p2, .slice C3 es2.length p3))).flatMap ndL) := ⟨HROW.out, fun g c hv => by cases hv; rfl⟩
    have h2 := h1.keep (w' := (put11 (W10.setCell ⟨w.heap.size, 10, none⟩ (.slice (some ⟨g8, 0, none⟩) ks.length cap8)) (w.heap.size + 1) (.int .i64 d.kind) (.int .i64 d.fn) (.int .i64 d.win) (.int .i64 d.off) (.int .i64 d.k) (.int .i64 d.num) (.int .i64 d.den) (.string d.name) (.slice A1 d.ms.length n1) (.slice A2 d.bys.length n2) (.slice (some ⟨g8, 0, none⟩) ks.length cap8))) ⟨HSZ2.out, fun b e hb hl => HFAR.out b (by have := HG8.out; have := HC.out.z.lt; omega) (by have := HG8.out; have := HC.out.z.lt; omega) hl⟩
    exact h2.seq.mono fun b e _ hb => .inr (by have := HG8.out; have := HC.out.z.lt; omega)⟩
   have HT4 : Box (TreeAt (put11 (W10.setCell ⟨w.heap.size, 10, none⟩ (.slice (some ⟨g8, 0, none⟩) ks.length cap8)) (w.heap.size + 1) (.int .i64 d.kind) (.int .i64 d.fn) (.int .i64 d.win) (.int .i64 d.off) (.int .i64 d.k) (.int .i64 d.num) (.int .i64 d.den) (.string d.name) (.slice A1 d.ms.length n1) (.slice A2 d.bys.length n2) (.slice (some ⟨g8, 0, none⟩) ks.length cap8)) (FrP H w.heap.size) (.node e2 es2) (.slice C1 e2.ms.length p1, .slice C2 e2.bys.length p2, .slice C3 es2.length p3)) := ⟨by
    have hz := HC.out.z.lt
    have h8 := HB8.out.size
    refine (HT3.out.keep (w' := (put11 (W10.setCell ⟨w.heap.size, 10, none⟩ (.slice (some ⟨g8, 0, none⟩) ks.length cap8)) (w.heap.size + 1) (.int .i64 d.kind) (.int .i64 d.fn) (.int .i64 d.win) (.int .i64 d.off) (.int .i64 d.k) (.int .i64 d.num) (.int .i64 d.den) (.string d.name) (.slice A1 d.ms.length n1) (.slice A2 d.bys.length n2) (.slice (some ⟨g8, 0, none⟩) ks.length cap8))) ⟨HSZ2.out, fun b e o hp hl ho => World.cell?_of_block (a := ⟨b, o, none⟩) (HFAR.out b ?_ ?_ hl)⟩).mono ?_
    ·rcases hp with hp | hp <;> omega
    ·rcases hp with hp | hp <;> omega
    ·intro b e _ hp
     rcases hp with hp | hp
     ·exact .inl hp
     ·exact .inr (by omega)⟩
   show bodyPost _ _ _ _ _ (put11 (W10.setCell ⟨w.heap.size, 10, none⟩ (.slice (some ⟨g8, 0, none⟩) ks.length cap8)) (w.heap.size + 1) (.int .i64 d.kind) (.int .i64 d.fn) (.int .i64 d.win) (.int .i64 d.off) (.int .i64 d.k) (.int .i64 d.num) (.int .i64 d.den) (.string d.name) (.slice A1 d.ms.length n1) (.slice A2 d.bys.length n2) (.slice (some ⟨g8, 0, none⟩) ks.length cap8))
   generalize (put11 (W10.setCell ⟨w.heap.size, 10, none⟩ (.slice (some ⟨g8, 0, none⟩) ks.length cap8)) (w.heap.size + 1) (.int .i64 d.kind) (.int .i64 d.fn) (.int .i64 d.win) (.int .i64 d.off) (.int .i64 d.k) (.int .i64 d.num) (.int .i64 d.den) (.string d.name) (.slice A1 d.ms.length n1) (.slice A2 d.bys.length n2) (.slice (some ⟨g8, 0, none⟩) ks.length cap8)) = WF at HF HSP HN1 HKS HT4 ⊢
   clear z0 z1 z2 z3 z4 z5 z6 z7 z8 z9 z10 zf c0 c1 c2 c3 c4 c5 c6 c7 c8 c9 c10 cf HFAR HO2 HSZ2
   obtain ⟨e0, e1, e2', e3, e4, e5, e6, e7, e8, e9, e10⟩ := blk11 HF.out
   simp only [Nat.zero_add] at e1 e2' e3 e4 e5 e6 e7 e8 e9 e10
   have ef := HF.out.frozen
   refine bodyPost_ret (v := .agg (ndC d (.slice A1 d.ms.length n1) (.slice A2 d.bys.length n2) (.slice (some ⟨g8, 0, none⟩) ks.length cap8))) (by simp [results, Tryd.results10, go_sem, e0, e1, e2', e3, e4, e5, e6, e7, e8, e9, e10, ef]) rfl ?_
   refine ⟨.node d (ks.set 1 (.node e2 es2)), (.slice A1 d.ms.length n1, .slice A2 d.bys.length n2, (.slice (some ⟨g8, 0, none⟩) ks.length cap8)), rfl, Nod.tree ⟨HN1.out.ok, HN1.out.ms, HN1.out.bys, cs.set 1 (.slice C1 e2.ms.length p1, .slice C2 e2.bys.length p2, .slice C3 es2.length p3), by simp [HCS.out.1], by simpa using HKS.out, fun i t' c h1 h2 => ?_⟩, ?_, ?_, HSP.out⟩
   ·by_cases hi : i = 1
    ·subst hi
     rw [List.getElem?_set_self hkk] at h1
     rw [List.getElem?_set_self (by rw [HCS.out.1]; exact hkk)] at h2
     cases h1; cases h2
     exact HT4.out
    ·rw [List.getElem?_set_ne (Ne.symm hi)] at h1 h2
     exact ((HCW.out i t' c h1 h2).tree.keep HSP.out.agree).mono fun _ _ _ hp => .inl hp.2.1
   ·rw [dep, dep]; have := depL_set ks 1 _ (.node e2 es2) HX.out.1 HT2.out.2.1; omega
   ·rw [nds, nds]; have := ndsL_set ks 1 _ (.node e2 es2) HX.out.1 HT2.out.2.2; omega
end
end Go.Proofs.YtipafbppaaflcaaDoor
