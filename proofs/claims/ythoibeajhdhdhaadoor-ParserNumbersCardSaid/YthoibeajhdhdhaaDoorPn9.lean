/- Contracts, packed: Qh Yg Lb. -/
import Derived.Test.YthoibeajhdhdhaaDoorPn8
import Derived.IntWalk
import Derived.Maps.AppendAt
import Derived.OwnWalk
import Derived.Laws.OwnMore
set_option linter.unusedVariables false
set_option linter.unusedSimpArgs false
namespace Go.Proofs.YthoibeajhdhdhaaDoor
section
open Go.RowKit

def namesL : List ByteArray := [⟨#[97]⟩, ⟨#[97, 98]⟩, ⟨#[98]⟩, ⟨#[106, 111, 98]⟩, ⟨#[120, 95, 49]⟩, ⟨#[122, 111, 110, 101]⟩]
def valuesL : List ByteArray := [⟨#[97]⟩, ⟨#[97, 98]⟩, ⟨#[98]⟩, ⟨#[120, 49]⟩, ⟨#[126, 33]⟩, ⟨#[48]⟩]
def valuesL8 : List ByteArray := valuesL ++ [⟨#[]⟩, ⟨#[120]⟩]
theorem strInfo : (Tryd.prog.info? 9).map (fun i => (i.zero, i.size, i.bytes)) = some (some (.string ⟨#[]⟩), 1, 16) := by kernel_rfl
/-- a matcher made of the lists -/
def GoodMat (m : Mat) : Prop := m.1 ∈ namesL ∧ (0 ≤ m.2.1 ∧ m.2.1 < 3) ∧ m.2.2 ∈ valuesL8
theorem namesL_ok : ∀ x ∈ namesL, nameB x = true ∧ x.size ≤ 16 := by
  intro x hx
  simp [namesL] at hx
  rcases hx with rfl | rfl | rfl | rfl | rfl | rfl <;> exact ⟨by kernel_rfl, by decide⟩
theorem valuesL8_ok : ∀ x ∈ valuesL8, valueB x = true ∧ x.size ≤ 16 := by
  intro x hx
  simp [valuesL8, valuesL] at hx
  rcases hx with rfl | rfl | rfl | rfl | rfl | rfl | rfl | rfl <;> exact ⟨by kernel_rfl, by decide⟩
theorem GoodMat.valid {m : Mat} (h : GoodMat m) : vmatB m = true := by
  obtain ⟨h1, ⟨h2, h3⟩, h4⟩ := h
  have a := (namesL_ok _ h1).1
  have b := (valuesL8_ok _ h4).1
  simp [vmatB, a, b]; omega
theorem Strs.keep {w w' : World} {base : Nat} {T : List TypeId} {v : Value} {l : List ByteArray} (h : Strs w base v l) (f : Fr base T w w') (ht : 9 ∉ T) : Strs w' base v l := Seq.keep h f ht
theorem cells3 (w : World) (t : TypeId) (v0 v1 v2 : Value) : ∀ j u, [v0, v1, v2][j]? = some u → (w.alloc (.cells #[v0, v1, v2] t)).cell? ((⟨w.heap.size, 0, none⟩ : Addr).add j) = some u := by
  intro j u hj
  match j, hj with
  | 0, hj => simp at hj; subst hj; simp [Addr.add]
  | 1, hj => simp at hj; subst hj; simp [Addr.add]
  | 2, hj => simp at hj; subst hj; simp [Addr.add]
  | j + 3, hj => simp at hj
end
section
open Go.RowKit

/-- the units that were found: one -/
structure U1 (W : World) (u : Value) (b off c : Nat) : Prop where
  eq : u = .slice (some ⟨b, off, none⟩) 1 c
  le : 1 ≤ c ∧ c ≤ maxLen
  lt : b < W.heap.size
  c0 : W.cell? ⟨b, off, none⟩ = some (.int .i64 1)
  c1 : W.cell? ⟨b, off + 1, none⟩ = some (.int .i64 0)
  c2 : W.cell? ⟨b, off + 2, none⟩ = some (.int .i64 0)
theorem U1.below {W W' : World} {u : Value} {b off c : Nat} (h : U1 W u b off c) (hb : Below W.heap.size W W') : U1 W' u b off c :=
  ⟨h.eq, h.le, Nat.lt_of_lt_of_le h.lt hb.size, (hb.cell h.lt).trans h.c0, (hb.cell h.lt).trans h.c1, (hb.cell h.lt).trans h.c2⟩
end
section
open Go.RowKit FracM

/-- a token without its offset -/
abbrev ETok := Int × List UInt8 × Int
def er (t : Tok) : ETok := (t.kind, t.text, t.n)
/-- the text lexes to these tokens -/
def Lx (l : List UInt8) (es : List ETok) : Prop := ∀ n i, l.length ≤ n → ∃ T, lexM n i l = (T, 0, i + l.length) ∧ T.map er = es
def nh (f : UInt8 → Bool) (r : List UInt8) : Prop := ∀ c, r.head? = some c → f c = false
theorem nh_nil (f : UInt8 → Bool) : nh f [] := fun c h => by simp at h
theorem nh_cons {f : UInt8 → Bool} {c : UInt8} {r : List UInt8} (h : f c = false) : nh f (c :: r) := fun d hd => by simp at hd; subst hd; exact h
theorem tw_app {f : UInt8 → Bool} {w r : List UInt8} (hw : ∀ c ∈ w, f c = true) (hr : nh f r) : (w ++ r).takeWhile f = w := by
  induction w with
  | nil =>
    cases r with
    | nil => rfl
    | cons c r => simp [List.takeWhile_cons, hr c rfl]
  | cons c w ih => rw [List.cons_append, List.takeWhile_cons, hw c (by simp), if_pos rfl, ih fun x hx => hw x (by simp [hx])]
theorem Lx.nil : Lx [] [] := fun n i _ => ⟨[], by cases n <;> simp [lexM], rfl⟩
theorem Lx.spc {c : UInt8} {r : List UInt8} {es : List ETok} (hc : spcB c = true) (h : Lx r es) : Lx (c :: r) es := by
  intro n i hn
  simp only [List.length_cons] at hn
  obtain ⟨n, rfl⟩ : ∃ k, n = k + 1 := ⟨n - 1, by omega⟩
  obtain ⟨T, h1, h2⟩ := h n (i + 1) (by omega)
  exact ⟨T, by rw [lexM, if_pos hc, h1]; simp; omega, h2⟩
theorem Lx.tok {c : UInt8} {r : List UInt8} {e : ETok} {es : List ETok} (k : Nat) (hc : spcB c = false) (ht : ∀ i, (tokM i c r).1 = 0 ∧ er (tokM i c r).2.1 = e ∧ (tokM i c r).2.2 = k) (hk : 1 ≤ k ∧ k ≤ r.length + 1) (h : Lx ((c :: r).drop k) es) : Lx (c :: r) (e :: es) := by
  intro n i hn
  simp only [List.length_cons] at hn
  obtain ⟨n, rfl⟩ : ∃ k, n = k + 1 := ⟨n - 1, by omega⟩
  obtain ⟨t1, t2, t3⟩ := ht i
  obtain ⟨T, h1, h2⟩ := h n (i + k) (by simp; omega)
  refine ⟨(tokM i c r).2.1 :: T, ?_, by rw [List.map_cons, t2, h2]⟩
  rw [lexM, hc, if_neg (by simp), if_pos t1, t3, h1]
  simp only [List.length_drop, List.length_cons]
  congr 2
  omega
theorem let_spc {c : UInt8} (h : letB c = true) : spcB c = false := by
  have := (letB_iff c).1 h
  unfold spcB; simp; omega
theorem dig_spc {c : UInt8} (h : digB c = true) : spcB c = false := by
  have := (digB_iff c).1 h
  unfold spcB; simp; omega
theorem dig_let {c : UInt8} (h : digB c = true) : letB c = false := by
  have := (digB_iff c).1 h
  unfold letB; simp; omega
abbrev eW (w : List UInt8) : ETok := (0, w, 0)
abbrev eS (s : List UInt8) : ETok := (3, s, 0)
abbrev eN (n : Int) : ETok := (1, Lib.itoa n, n)
abbrev eX (s : List UInt8) : ETok := (2, s, 0)
theorem Lx.word {w r : List UInt8} {es : List ETok} (h1 : ∀ c ∈ w, wrdB c = true) (h2 : ∃ c v, w = c :: v ∧ letB c = true) (h3 : w.length ≤ 16) (hr : nh wrdB r) (h : Lx r es) : Lx (w ++ r) (eW w :: es) := by
  obtain ⟨c, v, rfl, hc⟩ := h2
  rw [List.cons_append]
  have htw : (c :: (v ++ r)).takeWhile wrdB = c :: v := tw_app (w := c :: v) h1 hr
  refine Lx.tok (c :: v).length (let_spc hc) (fun i => ?_) ⟨by simp, by simp⟩ (by simpa using h)
  unfold tokM
  rw [if_pos hc]
  unfold tokW
  rw [htw]
  exact ⟨if_neg (by omega), rfl, rfl⟩
theorem numV_le {n : Int} (h : n ≤ 1073741824) (c : UInt8) (l : List UInt8) : numV n (c :: l) = numV (n * 10 + ((c.toNat : Int) - 48)) l := by rw [numV, if_pos h]
theorem numV_gt {n : Int} (h : ¬ n ≤ 1073741824) (l : List UInt8) : numV n l = n := by
  cases l with
  | nil => rfl
  | cons c l => rw [numV, if_neg h]
theorem numV_snoc (l : List UInt8) (c : UInt8) : ∀ n : Int, numV n l ≤ 1073741824 → numV n (l ++ [c]) = numV n l * 10 + ((c.toNat : Int) - 48) := by
  induction l with
  | nil =>
    intro n h
    have h' : n ≤ 1073741824 := h
    rw [List.nil_append, numV_le h']; rfl
  | cons d l ih =>
    intro n h
    by_cases hn : n ≤ 1073741824
    · rw [numV_le hn] at h ⊢
      rw [List.cons_append, numV_le hn]
      exact ih _ h
    · rw [numV_gt hn] at h; exact absurd h hn
theorem dig_toNat {i : Nat} (h : i < 10) : (UInt8.ofNat (48 + i)).toNat = 48 + i := by
  rw [UInt8.toNat_ofNat']; omega
theorem dec_digs (u : Nat) : ∀ c ∈ Lib.decDigits u, digB c = true := by
  induction u using Nat.strongRecOn with
  | _ u ih =>
    intro c hc
    rw [Lib.decDigits] at hc
    split at hc
    · next h => obtain rfl := List.mem_singleton.1 hc; rw [digB_iff, dig_toNat h]; omega
    · next h =>
      simp only [List.mem_append, List.mem_singleton] at hc
      rcases hc with hc | hc
      · exact ih (u / 10) (by omega) c hc
      · subst hc; rw [digB_iff, dig_toNat (by omega)]; omega
theorem dec_val (u : Nat) : (u : Int) ≤ 1073741824 → numV 0 (Lib.decDigits u) = u := by
  induction u using Nat.strongRecOn with
  | _ u ih =>
    intro hu
    rw [Lib.decDigits]
    split
    · next h => rw [numV_le (by omega), dig_toNat h]; show (0 : Int) * 10 + _ = _; omega
    · next h =>
      have hv := ih (u / 10) (by omega) (by omega)
      rw [numV_snoc _ _ _ (by rw [hv]; omega), hv, dig_toNat (by omega)]
      omega
theorem dec_cons (u : Nat) : ∃ c v, Lib.decDigits u = c :: v := by
  cases h : Lib.decDigits u with
  | nil => have := Lib.decDigits_length u; have := Lib.nDigits_pos u; rw [h] at *; simp at *; omega
  | cons c v => exact ⟨c, v, rfl⟩
theorem Lx.num {n : Int} {r : List UInt8} {es : List ETok} (h0 : 0 ≤ n) (h1 : n ≤ 1073741824) (hr : nh digB r) (h : Lx r es) : Lx (Lib.itoa n ++ r) (eN n :: es) := by
  obtain ⟨u, rfl⟩ : ∃ u : Nat, n = u := ⟨n.toNat, by omega⟩
  have hi : Lib.itoa (u : Int) = Lib.decDigits u := by unfold Lib.itoa; rw [if_neg (by omega)]; rfl
  have hv := dec_val u h1
  have hd := dec_digs u
  obtain ⟨c, v, hcv⟩ := dec_cons u
  unfold eN
  rw [hi]
  rw [hcv] at hd hv ⊢
  have hc := hd c (by simp)
  rw [List.cons_append]
  have htw : (c :: (v ++ r)).takeWhile digB = c :: v := tw_app (w := c :: v) hd hr
  refine Lx.tok (c :: v).length (dig_spc hc) (fun i => ?_) ⟨by simp, by simp⟩ (by simpa using h)
  unfold tokM
  rw [dig_let hc, if_neg (by simp), if_pos hc]
  unfold tokN
  rw [htw, hv]
  exact ⟨if_neg (by omega), rfl, rfl⟩
theorem ixb_app (v r : List UInt8) (c : UInt8) (h : ∀ x ∈ v, x ≠ c) : Lib.indexByte (v ++ c :: r) c = v.length := by
  induction v with
  | nil => simp [Lib.indexByte]
  | cons d v ih =>
    have hd := h d (by simp)
    have hi := ih fun x hx => h x (by simp [hx])
    rw [List.cons_append]
    unfold Lib.indexByte
    split
    · next hq => exact absurd (by simpa using hq) hd
    · split
      · next hq =>
        rw [hi] at hq
        simp at hq
      · rw [hi]; simp
theorem tokT_ok {i : Nat} {l v : List UInt8} (hix : Lib.indexByte l.tail 34 = v.length) (ht : l.tail.take v.length = v) (ha : v.all txtB = true) (hl : v.length ≤ 16) : tokT i l = (0, ⟨2, v, 0, i⟩, v.length + 2) := by
  unfold tokT
  have hn : (Lib.indexByte l.tail 34).toNat = v.length := by rw [hix]; rfl
  rw [if_neg (by rw [hix]; omega), hn, ht, if_pos ha, if_neg (by rw [hix]; omega)]
theorem Lx.text {v r : List UInt8} {es : List ETok} (h1 : ∀ c ∈ v, txtB c = true ∧ c ≠ 34) (h3 : v.length ≤ 16) (h : Lx r es) : Lx (34 :: (v ++ (34 :: r))) (eX v :: es) := by
  have hix := ixb_app v r 34 fun x hx => (h1 x hx).2
  refine Lx.tok (v.length + 2) (by decide) (fun i => ?_) ⟨by omega, by simp only [List.length_append, List.length_cons]; omega⟩ (by rw [show (34 :: (v ++ 34 :: r)).drop (v.length + 2) = r by rw [show v.length + 2 = (34 :: (v ++ [34])).length by simp, show 34 :: (v ++ 34 :: r) = (34 :: (v ++ [34])) ++ r by simp, List.drop_left]]; exact h)
  unfold tokM
  rw [if_neg (by decide), if_neg (by decide), if_pos (by decide), tokT_ok (v := v) (l := 34 :: (v ++ 34 :: r)) hix (by simp) (by rw [List.all_eq_true]; exact fun c hc => (h1 c hc).1) h3]
  exact ⟨rfl, rfl, rfl⟩
def symB (c : UInt8) : Bool := [43, 45, 42, 47, 40, 41, 123, 125, 44, 46, 64, 61].contains c
theorem Lx.sym {c : UInt8} {r : List UInt8} {es : List ETok} (hc : symB c = true) (h : Lx r es) : Lx (c :: r) (eS [c] :: es) := by
  have : c = 43 ∨ c = 45 ∨ c = 42 ∨ c = 47 ∨ c = 40 ∨ c = 41 ∨ c = 123 ∨ c = 125 ∨ c = 44 ∨ c = 46 ∨ c = 64 ∨ c = 61 := by
    unfold symB at hc; simpa using hc
  rcases this with rfl | rfl | rfl | rfl | rfl | rfl | rfl | rfl | rfl | rfl | rfl | rfl
  all_goals exact Lx.tok 1 (by decide) (fun i => ⟨by simp [tokM, letB, digB, tokS, symN], by simp [tokM, letB, digB, tokS, symN, er], by simp [tokM, letB, digB, tokS, symN]⟩) ⟨by omega, by omega⟩ (by simpa using h)
theorem Lx.sym2 {c : UInt8} {r : List UInt8} {es : List ETok} (hc : c = 33 ∨ c = 94) (h : Lx r es) : Lx (c :: 61 :: r) (eS [c, 61] :: es) := by
  rcases hc with rfl | rfl
  all_goals exact Lx.tok 2 (by decide) (fun i => ⟨by simp [tokM, letB, digB, tokS, symN], by simp [tokM, letB, digB, tokS, symN, er], by simp [tokM, letB, digB, tokS, symN]⟩) ⟨by omega, by simp⟩ (by simpa using h)
end
end Go.Proofs.YthoibeajhdhdhaaDoor
