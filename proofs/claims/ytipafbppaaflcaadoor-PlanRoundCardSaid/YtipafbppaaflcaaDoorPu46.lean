/- Contracts, packed: Be. -/
import Derived.Test.YtipafbppaaflcaaDoorPu40
import Derived.Laws.BytesArg
set_option linter.unusedVariables false
set_option linter.unusedSimpArgs false
namespace Go.Proofs.YtipafbppaaflcaaDoor
section
open Go.RowKit
theorem SqB.of_own' {w : World} {B g n c : Nat} {l : List Nat} (h : OwnB w B (.slice (some ⟨g, 0, none⟩) n c) l) : SqB w g 0 l := by
 rcases Nat.eq_zero_or_pos l.length with h0 | h0
 ·have hl : l = [] := List.eq_nil_of_length_eq_zero h0
  subst hl
  refine ⟨?_, fun k x hx => by simp at hx⟩
  unfold OwnB at h
  rcases h.2 with ⟨hv, _⟩ | ⟨g', cap, cur, hv, hbg, hg, _⟩
  ·cases hv
  ·cases hv
   exact (Array.getElem?_eq_some_iff.1 hg).1
 ·obtain ⟨g', c', hv, -, hs⟩ := SqB.of_own h h0
  cases hv
  exact hs
/-- the frame of a reader at g: below B nothing but g turns -/
structure FR (g B : Nat) (w W : World) : Prop where
 os : W.os = w.os
 tape : W.tape = w.tape
 output : W.output = w.output
 size : w.heap.size ≤ W.heap.size
 block : ∀ k, k < B → k ≠ g → W.heap[k]? = w.heap[k]?
theorem FR.refl (g B : Nat) (w : World) : FR g B w w := ⟨rfl, rfl, rfl, Nat.le_refl _, fun _ _ _ => rfl⟩
theorem FR.trans {g B : Nat} {w w1 w2 : World} (h : FR g B w w1) (k : FR g B w1 w2) : FR g B w w2 := ⟨k.os.trans h.os, k.tape.trans h.tape, k.output.trans h.output, Nat.le_trans h.size k.size, fun i hi hn => (k.block i hi hn).trans (h.block i hi hn)⟩
theorem FR.of_below {g B : Nat} {w W : World} (h : Below B w W) : FR g B w W := ⟨h.os, h.tape, h.output, h.size, fun k hk _ => h.block k hk⟩
theorem FR.set (g B o : Nat) (w : World) (u : Value) : FR g B w (w.setCell ⟨g, o, none⟩ u) := ⟨rfl, rfl, rfl, by simp, fun k _ hn => Below.heap_setCell _ _ _ _ hn⟩
theorem FR.mono {g B B' : Nat} {w W : World} (h : FR g B w W) (hB : B' ≤ B) : FR g B' w W := ⟨h.os, h.tape, h.output, h.size, fun k hk hn => h.block k (by omega) hn⟩
theorem FR.then_ {g : Nat} {w w1 w2 : World} (h : FR g w.heap.size w w1) (k : FR g w1.heap.size w1 w2) : FR g w.heap.size w w2 := h.trans (k.mono h.size)
/-- a reader at h, at the offset p -/
structure RD (h b off c : Nat) (l : List Nat) (W : World) (p : Nat) : Prop where
 blk : Blk W h 118 #[.slice (some ⟨b, off, none⟩) l.length c, .int .i64 (p : Int), .int .i64 0]
 sq : SqB W b off l
 ne : b ≠ h
theorem RD.fw {h b off c : Nat} {l : List Nat} {W W' : World} {p p' : Nat} (r : RD h b off c l W p) (f : FR h W.heap.size W W') (hb : Blk W' h 118 #[.slice (some ⟨b, off, none⟩) l.length c, .int .i64 (p' : Int), .int .i64 0]) : RD h b off c l W' p' :=
 ⟨hb, r.sq.keep f.size (f.block b r.sq.lt r.ne), r.ne⟩
theorem RD.below {h b off c : Nat} {l : List Nat} {W W' : World} {p : Nat} (r : RD h b off c l W p) (f : Below W.heap.size W W') : RD h b off c l W' p := ⟨r.blk.below f, r.sq.below f, r.ne⟩
def RetRd (l : List Nat) (w : World) (e : Ending) (w' : World) : Prop := ∃ h b off c, e = .returned (.pointer (some ⟨h, 0, none⟩)) ∧ w.heap.size ≤ h ∧ RD h b off c l w' 0 ∧ Below w.heap.size w w'
set_option maxHeartbeats 400000 in
theorem read_any (b off c : Nat) (l : List Nat) (w : World) (h : SqB w b off l) (h0 : 0 < l.length) (hl : l.length ≤ 1000000) :
  Calls Tryd.prog 51 #[.slice (some ⟨b, off, none⟩) l.length c] w (RetRd l w) := by
 have HS := Box.mk h
 clear h
 go_enter Tryd.func51, Tryd.ntmps51
 go_wp2_with fail
 refine (bclone_any b off l.length c l _ rfl h0 HS.out hl).mono ?_
 rintro e w1 ⟨v', rfl, hO, hbel⟩
 obtain ⟨b', c', rfl, hb, hs⟩ := SqB.of_own hO h0
 have HB := Box.mk hbel
 have HQ := Box.mk hs
 have hlt := hs.lt
 clear hs hbel
 go_wp2_with fail
 go_ret
 have hz := HB.out.size
 exact ⟨_, b', 0, c', rfl, hz, ⟨Blk.new _ _ _, HQ.out.below (bel1 _ _), by omega⟩, bthen HB.out (bel1 _ _) (Nat.le_refl _)⟩
set_option maxHeartbeats 1000000 in
theorem octet_any (h b off c p x : Nat) (l : List Nat) (w : World) (r : RD h b off c l w p) (hx : l[p]? = some x) (hl : l.length ≤ 1000000) :
  Calls Tryd.prog 94 #[.pointer (some ⟨h, 0, none⟩)] w fun e w' => e = .returned (.int .u8 (x : Int)) ∧ RD h b off c l w' (p + 1) ∧ FR h w.heap.size w w' := by
 have hp : p < l.length := (List.getElem?_eq_some_iff.1 hx).1
 have hp2 : ¬ (l.length : Int) ≤ (p : Int) := by omega
 have HR := Box.mk r
 obtain ⟨r0, r1, r2⟩ := r.blk.c3
 have rf := r.blk.frozen
 have hxc := r.sq.at_ p x hx
 have hne := r.ne
 have hne2 := Ne.symm r.ne
 have HX := Box.mk hx
 clear r hx
 go_enter Tryd.func94, Tryd.ntmps94
 go_upto_region 3 with (fail)
 go_region
 all_goals
  go_upto_region 7 with (fail)
  have HF7 : Box (FR h w.heap.size w (w.setCell ⟨h, 1, none⟩ (.int .i64 ((p : Int) + 1))).drew) := ⟨⟨rfl, rfl, rfl, (FR.set h w.heap.size 1 w (.int .i64 ((p : Int) + 1))).size, (FR.set h w.heap.size 1 w (.int .i64 ((p : Int) + 1))).block⟩⟩
  have HB7 : Box (Blk (w.setCell ⟨h, 1, none⟩ (.int .i64 ((p : Int) + 1))).drew h 118 #[.slice (some ⟨b, off, none⟩) l.length c, .int .i64 ((p : Int) + 1), .int .i64 0]) := ⟨by
   have h7 : Blk (w.setCell ⟨h, 1, none⟩ (.int .i64 ((p : Int) + 1))) h 118 #[.slice (some ⟨b, off, none⟩) l.length c, .int .i64 ((p : Int) + 1), .int .i64 0] := by
    have := HR.out.blk.set 1 (.int .i64 ((p : Int) + 1))
    simpa using this
   exact h7.drewN 1⟩
  have HR7 : Box (RD h b off c l (w.setCell ⟨h, 1, none⟩ (.int .i64 ((p : Int) + 1))).drew (p + 1)) := ⟨HR.out.fw HF7.out (by rw [show (((p + 1 : Nat)) : Int) = (p : Int) + 1 by omega]; exact HB7.out)⟩
  clear r0 r1 r2 rf hxc HR
  generalize (w.setCell ⟨h, 1, none⟩ (.int .i64 ((p : Int) + 1))).drew = W7 at *
  obtain ⟨r0, r1, r2⟩ := HB7.out.c3
  have hxc := HR7.out.sq.at_ p x HX.out
  have hp3 : (p : Int) < (l.length : Int) := by omega
  go_region
  all_goals
   go_wp2_with fail
   go_ret
   exact ⟨rfl, by first | exact HR7.out | exact HR7.out.below (below_drewN _ _), by first | exact HF7.out | exact HF7.out.then_ (FR.of_below (below_drewN _ _))⟩
theorem drop_step {α : Type} {l : List α} {k : Nat} {x : α} {r : List α} (h : l.drop k = x :: r) : l[k]? = some x ∧ l.drop (k + 1) = r := by
 have h1 : (l.drop k)[0]? = some x := by rw [h]; rfl
 rw [List.getElem?_drop, Nat.add_zero] at h1
 refine ⟨h1, ?_⟩
 rw [← List.drop_drop, h]; rfl
/-- what has been read and what is left of a number -/
structure UR (n i acc m : Nat) : Prop where
 i9 : i ≤ 9
 lt : acc < 2 ^ (7 * i)
 sum : n = acc + m * 2 ^ (7 * i)
 pos : i = 0 ∨ m ≠ 0
theorem UR.small {n i acc m : Nat} (h : UR n i acc m) (hn : n < 18446744073709551616) (h9 : i = 9) : m < 2 := by
 have hs := h.sum
 rw [h9] at hs
 omega
theorem UR.step {n i acc m : Nat} (h : UR n i acc m) (hn : n < 18446744073709551616) (hm : ¬ m < 128) : UR n (i + 1) (acc + m % 128 * 2 ^ (7 * i)) (m / 128) := by
 have hi : i < 9 := by
  rcases Nat.lt_or_ge i 9 with h9 | h9
  ·exact h9
  ·have : i = 9 := by have := h.i9; omega
   have := h.small hn this; omega
 have hlt := h.lt
 have e : 2 ^ (7 * (i + 1)) = 128 * 2 ^ (7 * i) := by rw [Nat.mul_add, Nat.pow_add, Nat.mul_comm]
 have hm1 : m % 128 * 2 ^ (7 * i) ≤ 127 * 2 ^ (7 * i) := Nat.mul_le_mul_right _ (by omega)
 refine ⟨by omega, by rw [e]; omega, ?_, .inr (by omega)⟩
 rw [e, h.sum]
 have : m = m % 128 + 128 * (m / 128) := by omega
 have h2 : m * 2 ^ (7 * i) = m % 128 * 2 ^ (7 * i) + m / 128 * (128 * 2 ^ (7 * i)) := by
  conv => lhs; rw [this]
  rw [Nat.add_mul, Nat.mul_comm 128 (m / 128), Nat.mul_assoc]
 omega
/-- a set of bits beside another -/
theorem or_add (i acc y : Nat) (h9 : i ≤ 9) (h : acc < 2 ^ (7 * i)) (hy : acc + y * 2 ^ (7 * i) < 18446744073709551616) : bits .or .u64 (acc : Int) ((y : Int) * 2 ^ (7 * i) % 18446744073709551616) = ((acc + y * 2 ^ (7 * i) : Nat) : Int) := by
 have hy2 : y * 2 ^ (7 * i) < 18446744073709551616 := by omega
 have e : (y : Int) * 2 ^ (7 * i) % 18446744073709551616 = ((y * 2 ^ (7 * i) : Nat) : Int) := by
  rw [show (y : Int) * 2 ^ (7 * i) = ((y * 2 ^ (7 * i) : Nat) : Int) by simp]
  omega
 rw [e]
 have ha : acc < 18446744073709551616 := by omega
 unfold bits
 simp only
 have hb : (BitVec.ofInt IntKind.u64.bits (acc : Int) ||| BitVec.ofInt IntKind.u64.bits ((y * 2 ^ (7 * i) : Nat) : Int)).toNat = acc + y * 2 ^ (7 * i) := by
  rw [BitVec.toNat_or, BitVec.ofInt_natCast, BitVec.ofInt_natCast, BitVec.toNat_ofNat, BitVec.toNat_ofNat]
  rw [Nat.mod_eq_of_lt (by simpa [IntKind.bits] using ha), Nat.mod_eq_of_lt (by simpa [IntKind.bits] using hy2)]
  rw [Nat.or_comm, Nat.add_comm, ← Nat.shiftLeft_eq, Nat.shiftLeft_add_eq_or_of_lt h]
 rw [hb, IntKind.wrap_u64]
 omega
theorem or_step (i acc x : Nat) (hx : x < 256) (h9 : i ≤ 9) (h : acc < 2 ^ (7 * i)) (hy : acc + x % 128 * 2 ^ (7 * i) < 18446744073709551616) :
  bits .or .u64 (acc : Int) (IntKind.u64.wrap (IntKind.u64.wrap (bits .and .u8 (x : Int) 127) * 2 ^ (7 * i))) = ((acc + x % 128 * 2 ^ (7 * i) : Nat) : Int) := by
 rw [and127 x hx, IntKind.wrap_u64, IntKind.wrap_u64, show ((x % 128 : Nat) : Int) % 18446744073709551616 = ((x % 128 : Nat) : Int) by omega]
 exact or_add i acc (x % 128) h9 h hy
def RetUr (h b off c : Nat) (l : List Nat) (p : Nat) (v : Value) (w : World) (e : Ending) (w' : World) : Prop := e = .returned v ∧ RD h b off c l w' p ∧ FR h w.heap.size w w'
set_option maxHeartbeats 2000000 in
set_option maxRecDepth 100000 in
theorem ruint_any (h b off c p n : Nat) (l r : List Nat) (w : World) (hr : RD h b off c l w p) (hd : l.drop p = uvN n ++ r) (hn : n < 18446744073709551616) (hl : l.length ≤ 1000000) :
  Calls Tryd.prog 79 #[.pointer (some ⟨h, 0, none⟩)] w (RetUr h b off c l (p + (uvN n).length) (.int .u64 (n : Int)) w) := by
 have HR := Box.mk hr
 have HD := Box.mk hd
 have HN := Box.mk hn
 obtain ⟨pe, HPE⟩ : ∃ pe, Box (p + (uvN n).length = pe) := ⟨_, ⟨rfl⟩⟩
 rw [HPE.out]
 clear hr hd hn
 go_enter Tryd.func79, Tryd.ntmps79
 go_wp2_with fail
 go_loopw [3, 4] (fun z y wr => ∃ i acc m : Nat, z = .int .u64 (acc : Nat) ∧ y = .int .i64 (i : Nat) ∧ Box (UR n i acc m) ∧ Box (l.drop (p + i) = uvN m ++ r) ∧ Box (p + i + (uvN m).length = pe) ∧ RD h b off c l wr (p + i) ∧ FR h w.heap.size w wr) (fun _ y _ => (10 - intOf y).toNat)
 case atStart => exact ⟨0, 0, n, rfl, rfl, ⟨⟨by omega, by simp, by simp, .inl rfl⟩⟩, HD, HPE, HR.out, FR.refl _ _ _⟩
 case round =>
  clear HR HD HPE
  obtain ⟨i, acc, m, rfl, rfl, HU, HD, HPE, hr, hf⟩ := hrel
  have HR := Box.mk hr
  have HF := Box.mk hf
  clear hr hf
  have hi9 := HU.out.i9
  have hpos := HU.out.pos
  by_cases hm : m < 128
  ·have hdd := HD.out
   rw [uvN_small hm] at hdd
   obtain ⟨hx, -⟩ := drop_step hdd
   have HX := Box.mk hx
   clear hdd hx
   have HEV : Box (bits .or .u64 (acc : Int) (IntKind.u64.wrap (IntKind.u64.wrap (bits .and .u8 (m : Int) 127) * 2 ^ (7 * i))) = (n : Int)) := ⟨by
    have hs := HU.out.sum
    rw [or_step i acc m (by omega) HU.out.i9 HU.out.lt (by rw [Nat.mod_eq_of_lt hm]; have := HN.out; omega), Nat.mod_eq_of_lt hm, ← hs]⟩
   have HPE2 : Box (p + i + 1 = pe) := ⟨by rw [← HPE.out, uvN_small hm]; rfl⟩
   go_wp2_with fail
   refine (octet_any h b off c (p + i) m l _ HR.out HX.out hl).mono ?_
   rintro e w1 ⟨rfl, hr1, hf1⟩
   have HR1 := Box.mk hr1
   have HF1 := Box.mk (HF.out.then_ hf1)
   clear hr1 hf1 HR HF
   obtain ⟨r0, r1, r2⟩ := HR1.out.blk.c3
   have hsm : i = 9 → m < 2 := HU.out.small HN.out
   go_upto_region 7 with (fail)
   go_cut [28] (fun z wx => z = .bool false ∧ wx = w1)
   case first =>
    rcases hpos with rfl | hm0
    ·go_wp2_with fail
     go_meet
     exact ⟨rfl, rfl⟩
    ·have h0 : ((m : Int) == 0) = false := by rw [beq_eq_false_iff_ne]; omega
     by_cases h9 : i = 9
     ·have h1 : ¬ (1 : Int) < (m : Int) := by have := hsm h9; omega
      subst h9
      go_wp2_with fail
      go_meet
      exact ⟨rfl, rfl⟩
     ·have h9b : ((i : Int) == 9) = false := by rw [beq_eq_false_iff_ne]; omega
      go_wp2_with fail
      all_goals
       go_meet
       exact ⟨by first | rfl | simp, rfl⟩
   case rest =>
    obtain ⟨rfl, hwx⟩ := hcut
    subst hwx
    rename World => w1
    have hev := HEV.out
    go_wp2_with fail
    go_ret
    exact ⟨rfl, by rw [← HPE2.out]; exact HR1.out, HF1.out⟩
  ·have hdd := HD.out
   rw [uvN_big hm] at hdd
   obtain ⟨hx, hd2⟩ := drop_step hdd
   have HX := Box.mk hx
   have HD2 := Box.mk hd2
   clear hdd hx hd2
   have HUS := Box.mk (HU.out.step HN.out hm)
   have HEV : Box (bits .or .u64 (acc : Int) (IntKind.u64.wrap (IntKind.u64.wrap (bits .and .u8 ((m % 128 + 128 : Nat) : Int) 127) * 2 ^ (7 * i))) = ((acc + m % 128 * 2 ^ (7 * i) : Nat) : Int)) := ⟨by
    have hs := HUS.out.sum
    have e : (m % 128 + 128) % 128 = m % 128 := by omega
    rw [or_step i acc (m % 128 + 128) (by omega) HU.out.i9 HU.out.lt (by rw [e]; have := HN.out; omega), e]⟩
   have HPE2 : Box (p + (i + 1) + (uvN (m / 128)).length = pe) := ⟨by rw [← HPE.out, uvN_big hm]; simp; omega⟩
   have hxb : m % 128 + 128 < 256 := by omega
   obtain ⟨x, HXX⟩ : ∃ x, Box (m % 128 + 128 = x) := ⟨_, ⟨rfl⟩⟩
   have hx1 : 128 ≤ x := by have := HXX.out; omega
   rw [HXX.out] at HX HEV hxb
   go_wp2_with fail
   refine (octet_any h b off c (p + i) x l _ HR.out HX.out hl).mono ?_
   rintro e w1 ⟨rfl, hr1, hf1⟩
   have HR1 := Box.mk hr1
   have HF1 := Box.mk (HF.out.then_ hf1)
   clear hr1 hf1 HR HF
   obtain ⟨r0, r1, r2⟩ := HR1.out.blk.c3
   have hsm : i = 9 → m < 2 := HU.out.small HN.out
   go_upto_region 7 with (fail)
   go_cut [28] (fun z wx => z = .bool false ∧ wx = w1)
   case first =>
    rcases hpos with rfl | hm0
    ·go_wp2_with fail
     go_meet
     exact ⟨rfl, rfl⟩
    ·have h0 : ((x : Int) == 0) = false := by rw [beq_eq_false_iff_ne]; omega
     have h9b : ((i : Int) == 9) = false := by rw [beq_eq_false_iff_ne]; have := HU.out.small HN.out; omega
     go_wp2_with fail
     all_goals
      go_meet
      exact ⟨by first | rfl | simp, rfl⟩
   case rest =>
    obtain ⟨rfl, hwx⟩ := hcut
    subst hwx
    rename World => w1
    have hev := HEV.out
    have hx2 : ¬ (x : Int) < 128 := by omega
    go_wp2_with fail
    go_roundw
    case rel => exact ⟨i + 1, _, _, by rfl, by go_num, HUS, by rw [← Nat.add_assoc]; exact HD2, HPE2, by rw [← Nat.add_assoc]; exact HR1.out, HF1.out⟩
    case measure => simp [intOf]; omega
theorem and1 (z : Nat) (hz : z < 18446744073709551616) : bits .and .u64 (z : Int) 1 = ((z % 2 : Nat) : Int) := by
 have h1 : (BitVec.ofInt 64 (z : Int)).toNat = z := by
  rw [BitVec.ofInt_natCast, BitVec.toNat_ofNat]; exact Nat.mod_eq_of_lt (by omega)
 have h2 : (BitVec.ofInt 64 1).toNat = 1 := rfl
 show IntKind.u64.wrap ((BitVec.ofInt 64 (z : Int) &&& BitVec.ofInt 64 1).toNat : Int) = _
 rw [BitVec.toNat_and, h1, h2, Nat.and_one_is_mod, IntKind.wrap_u64]
 omega
theorem xor_i64_zero (a : Nat) (ha : a < 9223372036854775808) : bits .xor .i64 (a : Int) 0 = (a : Int) := by
 have h1 : (BitVec.ofInt 64 (a : Int)).toNat = a := by
  rw [BitVec.ofInt_natCast, BitVec.toNat_ofNat]; exact Nat.mod_eq_of_lt (by omega)
 have h2 : (BitVec.ofInt 64 0).toNat = 0 := rfl
 show IntKind.i64.wrap ((BitVec.ofInt 64 (a : Int) ^^^ BitVec.ofInt 64 0).toNat : Int) = _
 rw [BitVec.toNat_xor, h1, h2, Nat.xor_zero, IntKind.wrap_i64]
 omega
theorem xor_i64_ones (a : Nat) (ha : a < 9223372036854775808) : bits .xor .i64 (a : Int) (-1) = -(a : Int) - 1 := by
 have h1 : (BitVec.ofInt 64 (a : Int)).toNat = a := by
  rw [BitVec.ofInt_natCast, BitVec.toNat_ofNat]; exact Nat.mod_eq_of_lt (by omega)
 have h2 : (BitVec.ofInt 64 (-1)).toNat = 18446744073709551615 := rfl
 show IntKind.i64.wrap ((BitVec.ofInt 64 (a : Int) ^^^ BitVec.ofInt 64 (-1)).toNat : Int) = _
 rw [BitVec.toNat_xor, h1, h2, xor_ones a (by omega), IntKind.wrap_i64]
 omega
theorem zag_eq (z : Nat) (hz : z < 18446744073709551616) : bits .xor .i64 (wrap64 ((z : Int) / 2)) (wrap64 (-wrap64 (bits .and .u64 (z : Int) 1))) = zag z := by
 have e1 : wrap64 ((z : Int) / 2) = ((z / 2 : Nat) : Int) := by unfold wrap64; omega
 rw [and1 z hz, e1]
 unfold zag
 by_cases h : z % 2 = 0
 ·rw [if_pos h, h, show wrap64 (-wrap64 ((0 : Nat) : Int)) = 0 by unfold wrap64; omega]
  exact xor_i64_zero _ (by omega)
 ·rw [if_neg h, show z % 2 = 1 by omega, show wrap64 (-wrap64 ((1 : Nat) : Int)) = -1 by unfold wrap64; omega]
  exact xor_i64_ones _ (by omega)
set_option maxHeartbeats 1000000 in
theorem rint_any (h b off c p : Nat) (n : Int) (l r : List Nat) (w : World) (hr : RD h b off c l w p) (hd : l.drop p = uvN (zig n) ++ r) (n1 : -9223372036854775808 ≤ n) (n2 : n ≤ 9223372036854775807) (hl : l.length ≤ 1000000) :
  Calls Tryd.prog 52 #[.pointer (some ⟨h, 0, none⟩)] w (RetUr h b off c l (p + (uvN (zig n)).length) (.int .i64 n) w) := by
 have HR := Box.mk hr
 have HD := Box.mk hd
 have HZ := Box.mk (zig_lt n1 n2)
 have hev : bits .xor .i64 (wrap64 ((zig n : Int) / 2)) (wrap64 (-wrap64 (bits .and .u64 (zig n : Int) 1))) = n := by rw [zag_eq _ (zig_lt n1 n2), zag_zig]
 clear hr hd n1 n2
 go_enter Tryd.func52, Tryd.ntmps52
 go_wp2_with fail
 refine (ruint_any h b off c p (zig n) l r _ HR.out HD.out HZ.out hl).mono ?_
 rintro e w1 ⟨rfl, hr1, hf1⟩
 go_wp2_with fail
 go_ret
 exact ⟨rfl, hr1, hf1⟩
set_option maxHeartbeats 1000000 in
theorem end_any (h b off c p : Nat) (l : List Nat) (w : World) (hr : RD h b off c l w p) (hp : l.length ≤ p) (hl : l.length ≤ 1000000) :
  Calls Tryd.prog 54 #[.pointer (some ⟨h, 0, none⟩)] w (RetUr h b off c l p (.int .i64 0) w) := by
 have HR := Box.mk hr
 obtain ⟨r0, r1, r2⟩ := hr.blk.c3
 have hlt : ¬ (p : Int) < (l.length : Int) := by omega
 clear hr
 go_enter Tryd.func54, Tryd.ntmps54
 go_upto_region 3 with (fail)
 go_region
 all_goals
  go_wp2_with fail
  go_ret
  exact ⟨rfl, by first | exact HR.out | exact HR.out.below (below_drewN _ _), by first | exact FR.refl _ _ _ | exact FR.of_below (below_drewN _ _)⟩
theorem own_fr2 {w w' : World} {g B t size n : Nat} {v : Value} {xs : List Value} (h : w.ownsRow B t size v n xs) (f : FR g w.heap.size w w') (hg : g < B) : w'.ownsRow B t size v n xs :=
 h.kept (row := some g) ⟨f.os, f.tape, f.output, f.size, fun k hk hn => f.block k hk (fun e => hn (by rw [e]))⟩ (by
  rcases h.2 with ⟨rfl, _⟩ | ⟨g', cap, cur, rfl, hb, _⟩
  ·exact .inl rfl
  ·exact .inr (by simp [Value.ownBlock]; omega))
theorem RD.lt_ {h b off c : Nat} {l : List Nat} {W W' : World} {p B : Nat} (r : RD h b off c l W p) (f : Below B W W') (hh : h < B) (hb : b < B) : RD h b off c l W' p :=
 ⟨(f.block h hh).trans r.blk, r.sq.keep f.size (f.block b hb), r.ne⟩
def RetLr (h b off c : Nat) (l s : List Nat) (p : Nat) (w : World) (e : Ending) (w' : World) : Prop := ∃ b2 c2, e = .returned (.slice (some ⟨b2, 0, none⟩) s.length c2) ∧ SqB w' b2 0 s ∧ RD h b off c l w' p ∧ FR h w.heap.size w w'
set_option maxHeartbeats 2000000 in
set_option maxRecDepth 100000 in
theorem list_any (h b off c p : Nat) (s r l : List Nat) (w : World) (hr : RD h b off c l w p) (hd : l.drop p = uvN s.length ++ (s ++ r)) (hl : l.length ≤ 1000000) :
  Calls Tryd.prog 95 #[.pointer (some ⟨h, 0, none⟩), .func (.func 94) #[.pointer (some ⟨h, 0, none⟩)] #[]] w (RetLr h b off c l s (p + (uvN s.length).length + s.length) w) := by
 have HR := Box.mk hr
 have HD := Box.mk hd
 have hsl : p + (uvN s.length).length + s.length ≤ l.length := by
  have h9 := List.length_pos_iff.2 (uvN_ne s.length)
  have := congrArg List.length hd
  simp at this
  omega
 obtain ⟨p2, HP2⟩ : ∃ q, Box (p + (uvN s.length).length = q) := ⟨_, ⟨rfl⟩⟩
 rw [HP2.out] at hsl ⊢
 have HD2 : Box (l.drop p2 = s ++ r) := ⟨by rw [← HP2.out, ← List.drop_drop, hd]; simp⟩
 clear hr hd
 go_enter Tryd.func95, Tryd.ntmps95
 go_wp2_with fail
 refine (ruint_any h b off c p s.length l (s ++ r) _ HR.out HD.out (by omega) hl).mono ?_
 rintro e w1 ⟨rfl, hr1, hf1⟩
 rw [HP2.out] at hr1
 have HR1 := Box.mk hr1
 have HF1 := Box.mk hf1
 obtain ⟨r0, r1, r2⟩ := hr1.blk.c3
 have hh1 := hr1.blk.lt
 have hb1 := hr1.sq.lt
 clear hr1 hf1 HR HD
 have e1 : IntKind.u64.wrap ((l.length : Int) - (p2 : Int)) = (l.length : Int) - (p2 : Int) := by rw [IntKind.wrap_u64]; omega
 have e2 : ¬ (l.length : Int) - (p2 : Int) < (s.length : Int) := by omega
 obtain ⟨j0, hj, hy0, hy1, hy2⟩ := info_parts byInfo
 have HJ := Box.mk (And.intro hj (And.intro hy0 (And.intro hy1 hy2)))
 clear hj hy0 hy1 hy2
 obtain ⟨w2, hmk, hown, hgr⟩ := run_make_own (P := Tryd.prog) w1.drew w1.heap.size 55 5 j0 (.int .u8 0) 1 Tryd.underlying55 HJ.out.1 HJ.out.2.1 HJ.out.2.2.1 .i64 .i64 s.length (by rw [HJ.out.2.2.2]; omega) (by unfold maxLen; omega) (Nat.le_refl _)
 have HO2 : Box (OwnB w2 w1.heap.size (.slice (some ⟨w1.heap.size, 0, none⟩) 0 s.length) []) := ⟨hown⟩
 have HB2 : Box (Below w1.heap.size w1 w2) := ⟨(below_drewN w1 1).trans ⟨hgr.os, hgr.tape, hgr.output, hgr.size, fun k hk => hgr.block k (by have := hgr.size; exact hk) (by simp)⟩⟩
 have HR2 := Box.mk (HR1.out.below HB2.out)
 have HF2 := Box.mk (HF1.out.trans ((FR.of_below (g := h) HB2.out).mono HF1.out.size))
 have hz2 := HB2.out.size
 have hzw := HF1.out.size
 clear hown hgr
 go_upto_region 4 with (fail)
 go_region
 all_goals
  clear r0 r1 r2
  go_upto_region 8 with (fail)
  go_wp2_with fail
  go_loopw [6, 35] (fun v y wr => ∃ i : Nat, i ≤ s.length ∧ y = .int .i64 (i : Nat) ∧ (OwnB wr w1.heap.size v (s.take i) ∧ ∃ gv cv, v = .slice (some ⟨gv, 0, none⟩) i cv) ∧ RD h b off c l wr (p2 + i) ∧ FR h w.heap.size w wr ∧ w1.heap.size ≤ wr.heap.size) (fun _ y _ => s.length - (intOf y).toNat)
  case atStart => exact ⟨0, by omega, rfl, ⟨HO2.out, _, _, rfl⟩, HR2.out, HF2.out, hz2⟩
  case round =>
   clear HO2 HR2 HF2 HR1 HF1
   obtain ⟨i, hi, rfl, ⟨hown, gv, cv, rfl⟩, hrd, hfw, hzr⟩ := hrel
   have HO := Box.mk hown
   have HR := Box.mk hrd
   have HF := Box.mk hfw
   clear hown hrd hfw
   by_cases hlt : i < s.length
   ·have hlt2 : (i : Int) < (s.length : Int) := by omega
    obtain ⟨x, hx⟩ : ∃ x, s[i]? = some x := ⟨s[i], List.getElem?_eq_getElem _⟩
    have HX : Box (l[p2 + i]? = some x) := ⟨by rw [← List.getElem?_drop, HD2.out, List.getElem?_append_left hlt, hx]⟩
    have HT : Box (s.take (i + 1) = s.take i ++ [x]) := ⟨by rw [List.take_add_one, hx]; rfl⟩
    have htl : (s.take i).length = i := by rw [List.length_take]; omega
    clear hx
    go_wp2_with fail
    refine (octet_any h b off c (p2 + i) x l _ HR.out HX.out hl).mono ?_
    rintro e w5 ⟨rfl, hr5, hf5⟩
    have HR5 := Box.mk hr5
    have HF5 := Box.mk (HF.out.then_ hf5)
    have HO5 : Box (OwnB w5 w1.heap.size _ (s.take i)) := ⟨own_fr2 HO.out hf5 hh1⟩
    have hz5 := hf5.size
    clear hr5 hf5 HR HF HO
    have HO7 : Box (w5.ownsRow w1.heap.size 5 1 (.slice (some ⟨gv, 0, none⟩) i cv) i (u8L (s.take i))) := ⟨by have := HO5.out; unfold OwnB at this; rw [htl] at this; exact this⟩
    clear HO5
    go_wp2_with (at_builtin; refine wpList_append_lies _ rfl _ _ 55 rfl w1.heap.size 5 j0 _ 1 1 Tryd.underlying55 HJ.out.1 HJ.out.2.1 HJ.out.2.2.1 HJ.out.2.2.2 rfl (by decide) (.slice (some ⟨gv, 0, none⟩) i cv) i (u8L (s.take i)) rfl (by exact World.ownsRow.alloc HO7.out _) ⟨w5.heap.size, 0, none⟩ 1 1 [.int .u8 (x : Int)] rfl rfl (cells1b _ _ _) (by simp [Value.oneCell']) (by decide) (by unfold maxLen; omega) (by omega) (by simp; omega) _ rfl ?_; intro g8 cap8 w6 hown6 hg6 hat6 hlt6; have HB6 : Box (Below w1.heap.size w5 w6) := Box.mk (((Below.refl _ w5).alloc (by omega) _).trans (grow_ltW (World.ownsRow.alloc HO7.out _) hg6 (by simp; omega))); have HR6 := Box.mk (HR5.out.lt_ HB6.out hh1 hb1); have q2 := (RD.blk HR6.out).c3.2.2; have HO6 : Box (OwnB w6 w1.heap.size (.slice (some ⟨g8, 0, none⟩) (i + 1) cap8) (s.take i ++ [x])) := Box.mk (by unfold OwnB; rw [List.length_append, htl]; unfold u8L; rw [List.map_append]; exact hown6); clear hown6 hg6 hat6 hlt6)
    go_roundw
    case rel => exact ⟨i + 1, by omega, by go_num, ⟨by rw [HT.out]; exact HO6.out, g8, cap8, rfl⟩, by rw [← Nat.add_assoc]; exact HR6.out, HF5.out.trans ((FR.of_below HB6.out).mono hzw), Nat.le_trans hzr (Nat.le_trans hz5 HB6.out.size)⟩
    case measure => simp [intOf]; omega
   ·have hie : i = s.length := by omega
    subst hie
    have hlt2 : ¬ (s.length : Int) < (s.length : Int) := by omega
    have hO := HO.out
    rw [List.take_length] at hO
    have hs := SqB.of_own' hO
    go_wp2_with fail
    go_ret
    exact ⟨gv, cv, rfl, hs, HR.out, HF.out⟩
set_option maxHeartbeats 1000000 in
theorem rraw_any (h b off c p : Nat) (s r l : List Nat) (w : World) (hr : RD h b off c l w p) (hd : l.drop p = uvN s.length ++ (s ++ r)) (hl : l.length ≤ 1000000) :
  Calls Tryd.prog 80 #[.pointer (some ⟨h, 0, none⟩)] w (RetLr h b off c l s (p + (uvN s.length).length + s.length) w) := by
 have HR := Box.mk hr
 have HD := Box.mk hd
 clear hr hd
 go_enter Tryd.func80, Tryd.ntmps80
 go_wp2_with fail
 refine (list_any h b off c p s r l _ HR.out HD.out hl).mono ?_
 rintro e w1 ⟨b2, c2, rfl, hs, hr1, hf⟩
 go_wp2_with fail
 go_ret
 exact ⟨b2, c2, rfl, hs, hr1, hf⟩
theorem str_back (t : ByteArray) : strOfNums ((strB t).map fun (x : Nat) => (x : Int)) = t := by
 unfold strOfNums strB
 apply ByteArray.ext
 simp only [List.map_map]
 rw [show ((fun n : Int => UInt8.ofNat n.toNat) ∘ (fun (x : Nat) => (x : Int)) ∘ fun b : UInt8 => b.toNat) = id from funext fun b => by simp]
 simp
set_option maxHeartbeats 1000000 in
theorem rtext_any (h b off c p : Nat) (t : ByteArray) (r l : List Nat) (w : World) (hr : RD h b off c l w p) (hd : l.drop p = uvN t.size ++ (strB t ++ r)) (hl : l.length ≤ 1000000) :
  Calls Tryd.prog 53 #[.pointer (some ⟨h, 0, none⟩)] w (RetUr h b off c l (p + (uvN t.size).length + t.size) (.string t) w) := by
 have HR := Box.mk hr
 have HD : Box (l.drop p = uvN (strB t).length ++ (strB t ++ r)) := ⟨by rw [strB_len]; exact hd⟩
 clear hr hd
 go_enter Tryd.func53, Tryd.ntmps53
 go_wp2_with fail
 refine (rraw_any h b off c p (strB t) r l _ HR.out HD.out hl).mono ?_
 rintro e w1 ⟨b2, c2, rfl, hs, hr1, hf⟩
 rw [strB_len] at hr1 ⊢
 have hcv : (convert 55 9 (.slice (some ⟨b2, 0, none⟩) t.size c2)).run Tryd.prog w1 = .ok (.string t) w1 := by
  have := run_convert_bytes_arg (P := Tryd.prog) w1 55 5 Tryd.underlying55 Tryd.underlying5 b2 0 t.size c2 ((strB t).map fun (x : Nat) => (x : Int)) (by rw [List.length_map, strB_len]) (fun i hi => by
   have hi2 : i < (strB t).length := by rw [strB_len]; exact hi
   rw [hs.at_ i (strB t)[i] (List.getElem?_eq_getElem hi2)]
   simp [List.getD, List.getElem?_eq_getElem hi2]) 9 Tryd.underlying9
  rw [str_back] at this
  exact this
 have HR1 := Box.mk hr1
 have HF1 := Box.mk hf
 clear hr1 hf hs
 go_wp2_with fail
 go_ret
 exact ⟨rfl, HR1.out, HF1.out⟩
end
end Go.Proofs.YtipafbppaaflcaaDoor
