/- Contracts, packed: Fm Base Shf. -/
import Derived.Test.YtpgdijbfkahepaaGreatDoorRows
import Derived.WalkKit
import Derived.WalkSpells
import Derived.WalkLawsBesides
import Derived.Outline
import Derived.Lib.Hide
import Derived.Deep.Draws
import Derived.Deep.QuietTactic
import Derived.BigQuiet
import Derived.Deep.LoopGhost
import Derived.Lib.OthersKept
import Derived.Shelf.Small.Strs
import Derived.Shelf.Strings.Search1
import Derived.Shelf.Slices.Turned
import Derived.Ground.Names2Prog
import Derived.Shelf.Slices.Clone
import Derived.Ground.SlgnProg
import Derived.Shelf.SlicesE.Clone
import Derived.Test.YtpgdijbfkahepaaGreatDoorProg
set_option linter.unusedVariables false
set_option linter.unusedSimpArgs false

namespace FracM

theorem gcd_mod_left (t g : Nat) : Nat.gcd (t % g) g = Nat.gcd t g := by
 rw [Nat.gcd_comm t g, Nat.gcd_rec g t]
/-- 2^62 -/
def M : Nat := 4611686018427387904
/-- p over q in lowest terms, with an error: 5 beyond the range -/
def low (p : Int) (q : Nat) : Int × Int × Int :=
 if p.natAbs / Nat.gcd p.natAbs q ≤ M ∧ q / Nat.gcd p.natAbs q ≤ M then
  (p.sign * ((p.natAbs / Nat.gcd p.natAbs q : Nat) : Int), ((q / Nat.gcd p.natAbs q : Nat) : Int), 0)
 else (0, 0, 5)
def validB (n d : Int) : Bool := decide (1 ≤ d) && decide (d ≤ M) && decide (n.natAbs ≤ M) && (Nat.gcd n.natAbs d.natAbs == 1)
def newF (num den : Int) : Int × Int × Int :=
 if den = 0 then (0, 0, 6) else if num = -9223372036854775808 ∨ den = -9223372036854775808 then (0, 0, 5)
 else low (if den < 0 then -num else num) den.natAbs
theorem valid_iff {n d : Int} : validB n d = true ↔ 1 ≤ d ∧ d ≤ M ∧ n.natAbs ≤ M ∧ Nat.gcd n.natAbs d.natAbs = 1 := by
 unfold validB; simp [Bool.and_eq_true, and_assoc]
theorem low_pos {p : Int} {q : Nat} (hq : 0 < q) : 0 < Nat.gcd p.natAbs q := Nat.gcd_pos_of_pos_right _ hq
theorem low_cop {p : Int} {q : Nat} (hq : 0 < q) : Nat.gcd (p.natAbs / Nat.gcd p.natAbs q) (q / Nat.gcd p.natAbs q) = 1 :=
 Nat.coprime_div_gcd_div_gcd (low_pos hq)
theorem sign_mul_natAbs (p : Int) : p.sign * (p.natAbs : Int) = p := Int.sign_mul_natAbs p
theorem natAbs_sign_mul {p : Int} {x : Nat} (h : p = 0 → x = 0) : (p.sign * (x : Int)).natAbs = x := by
 rw [Int.natAbs_mul, Int.natAbs_natCast]
 by_cases hp : p = 0
 ·simp [hp, h hp]
 ·rw [Int.natAbs_sign_of_ne_zero hp]; simp
theorem low_ok {p : Int} {q : Nat} {n d : Int} (hq : 0 < q) (h : low p q = (n, d, 0)) :
  n * q = p * d ∧ 1 ≤ d ∧ d ≤ M ∧ n.natAbs ≤ M ∧ Nat.gcd n.natAbs d.natAbs = 1 ∧ n.sign = p.sign := by
 unfold low at h
 split at h
 ·next hb =>
  obtain ⟨hn, hd⟩ := Prod.mk.inj h
  obtain ⟨hd, _⟩ := Prod.mk.inj hd
  have g0 := low_pos (p := p) hq
  have hz : p = 0 → p.natAbs / Nat.gcd p.natAbs q = 0 := fun h => by simp [h]
  have e1 : (p.natAbs / Nat.gcd p.natAbs q) * Nat.gcd p.natAbs q = p.natAbs := Nat.div_mul_cancel (Nat.gcd_dvd_left _ _)
  have e2 : (q / Nat.gcd p.natAbs q) * Nat.gcd p.natAbs q = q := Nat.div_mul_cancel (Nat.gcd_dvd_right _ _)
  have hc := low_cop (p := p) hq
  have hdp : 0 < q / Nat.gcd p.natAbs q := Nat.div_pos (Nat.le_of_dvd hq (Nat.gcd_dvd_right _ _)) g0
  generalize Nat.gcd p.natAbs q = g at *
  subst hn hd
  refine ⟨?_, by omega, by omega, by rw [natAbs_sign_mul hz]; exact hb.1, ?_, ?_⟩
  ·have : p.sign * ((p.natAbs / g : Nat) : Int) * (q : Int) = p.sign * (p.natAbs : Int) * ((q / g : Nat) : Int) := by
    rw [← e1, ← e2]
    simp only [Nat.mul_div_cancel _ g0]
    push_cast
    simp only [Int.mul_assoc, Int.mul_left_comm, Int.mul_comm]
   rw [this, sign_mul_natAbs]
  ·rw [natAbs_sign_mul hz, Int.natAbs_natCast]; exact hc
  ·by_cases hp : p = 0
   ·simp [hp]
   ·have : 0 < p.natAbs / g := by
     rcases Nat.eq_zero_or_pos (p.natAbs / g) with h0 | h0
     ·rw [h0] at e1; omega
     ·exact h0
    rw [Int.sign_mul, Int.sign_sign, Int.sign_natCast_of_ne_zero (by omega)]; simp
 ·simp at h
theorem low_self {n d : Int} (h : validB n d = true) : low n d.natAbs = (n, d, 0) := by
 obtain ⟨h1, h2, h3, h4⟩ := valid_iff.1 h
 unfold low
 rw [h4, Nat.div_one, Nat.div_one, if_pos ⟨h3, by omega⟩, sign_mul_natAbs]
 congr 2
 omega
theorem low_valid {p : Int} {q : Nat} {n d : Int} (hq : 0 < q) (h : low p q = (n, d, 0)) : validB n d = true := by
 obtain ⟨_, h1, h2, h3, h4, _⟩ := low_ok hq h
 exact valid_iff.2 ⟨h1, h2, h3, h4⟩
theorem newF_pos {p q : Int} (h0 : 0 < q) (h1 : q ≤ 9223372036854775807) (h2 : -9223372036854775808 < p) : newF p q = low p q.natAbs := by
 unfold newF; rw [if_neg (by omega), if_neg (by omega), if_neg (by omega)]
theorem newF_ok {p q n d : Int} (h : newF p q = (n, d, 0)) : validB n d = true := by
 unfold newF at h
 split at h
 ·simp at h
 ·split at h
  ·simp at h
  ·exact low_valid (by omega) h
theorem newF_self {n d : Int} : validB n d = true ↔ newF n d = (n, d, 0) := by
 constructor
 ·intro h
  obtain ⟨h1, h2, h3, h4⟩ := valid_iff.1 h
  unfold M at h2 h3
  rw [newF_pos (by omega) (by omega) (by omega), low_self h]
 ·exact newF_ok
end FracM


namespace Go.Proofs
open Go.Shelf
def Tryz.lays137_ren : Go.Shelf.Ren := ⟨fun | 137 => 88 | 217 => 101 | 266 => 109 | n => n, fun | 9 => 9 | 5 => 5 | 3 => 3 | n => n, fun | n => n⟩
theorem Tryz.lays137 : Go.Proofs.Lays.n137 Tryz.prog Tryz.lays137_ren := {
  mixed := by kernel_rfl
  f137 := Tryz.func88.trans (congrArg some (by kernel_rfl))
  f217 := Tryz.func101.trans (congrArg some (by kernel_rfl))
  f266 := Tryz.func109.trans (congrArg some (by kernel_rfl))
  t3 := Tryz.underlying3
  a3 := Tryz.isAgg3
  z3 := Tryz.sizeOf3
  v3 := Tryz.zeroValue3
  t5 := Tryz.underlying5
  a5 := Tryz.isAgg5
  z5 := Tryz.sizeOf5
  v5 := Tryz.zeroValue5
  t9 := Tryz.underlying9
  a9 := Tryz.isAgg9
  z9 := Tryz.sizeOf9
  v9 := Tryz.zeroValue9 }
open Go.RowKit in
/-- strings.IndexByte: "IndexByte returns the index of the first instance of c in s, or -1 if c is not present in s.": IT RETURNS 'Lib.indexByte s c'; the world is as it was. (LAID: no walk: one application.) -/
theorem Tryz.strings_IndexByte (s : ByteArray) (c : Int) (w : World) :
    Calls Tryz.prog 88 #[.string s, .int .u8 c] w fun e w' => e = .returned (.int .i64 (Lib.indexByte s.data.toList c.toNat.toUInt8)) ∧ w' = w := Any.strings_IndexByte Tryz.lays137 s c w
def Tryz.lays217_ren : Go.Shelf.Ren := ⟨fun | 217 => 101 | 266 => 109 | n => n, fun | 9 => 9 | 5 => 5 | 3 => 3 | n => n, fun | n => n⟩
theorem Tryz.lays217 : Go.Proofs.Lays.n217 Tryz.prog Tryz.lays217_ren := {
  mixed := by kernel_rfl
  f217 := Tryz.func101.trans (congrArg some (by kernel_rfl))
  f266 := Tryz.func109.trans (congrArg some (by kernel_rfl))
  t3 := Tryz.underlying3
  a3 := Tryz.isAgg3
  z3 := Tryz.sizeOf3
  v3 := Tryz.zeroValue3
  t5 := Tryz.underlying5
  a5 := Tryz.isAgg5
  z5 := Tryz.sizeOf5
  v5 := Tryz.zeroValue5
  t9 := Tryz.underlying9
  a9 := Tryz.isAgg9
  z9 := Tryz.sizeOf9
  v9 := Tryz.zeroValue9 }
open Go.RowKit Go.Lib in
/-- internal/stringslite.IndexByte (what strings.IndexByte calls): IT RETURNS 'Lib.indexByte s c'; the world is as it was. (LAID: no walk: one application.) -/
theorem Tryz.stringslite_IndexByte (s : ByteArray) (c : Int) (w : World) :
    Calls Tryz.prog 101 #[.string s, .int .u8 c] w fun e w' => e = .returned (.int .i64 (Lib.indexByte s.data.toList c.toNat.toUInt8)) ∧ w' = w := Any.stringslite_IndexByte Tryz.lays217 s c w
def Tryz.lays109_ren : Go.Shelf.Ren := ⟨fun | 109 => 92 | n => n, fun | 31 => 32 | 9 => 9 | 3 => 3 | 0 => 0 | 4 => 4 | n => n, fun | n => n⟩
theorem Tryz.lays109 : Go.Proofs.Lays.n109 Tryz.prog Tryz.lays109_ren := {
  mixed := by kernel_rfl
  f109 := Tryz.func92.trans (congrArg some (by kernel_rfl))
  t0 := Tryz.underlying0
  a0 := Tryz.isAgg0
  z0 := Tryz.sizeOf0
  v0 := Tryz.zeroValue0
  t3 := Tryz.underlying3
  a3 := Tryz.isAgg3
  z3 := Tryz.sizeOf3
  v3 := Tryz.zeroValue3
  t4 := Tryz.underlying4
  a4 := Tryz.isAgg4
  z4 := Tryz.sizeOf4
  v4 := Tryz.zeroValue4
  t9 := Tryz.underlying9
  a9 := Tryz.isAgg9
  z9 := Tryz.sizeOf9
  v9 := Tryz.zeroValue9
  t31 := Tryz.underlying32
  a31 := Tryz.isAgg32
  z31 := Tryz.sizeOf32
  v31 := Tryz.zeroValue32 }
open Go.Lib in
/-- slices.Index at []string: "Index returns the index of the first occurrence of v in s, or -1 if not present.": IT RETURNS 'Lib.idxOfS (the elements) v'; the world is as it was. 'zs': what the cells behind the slice's address hold (its spare capacity too, if you have it); 'zs.take n': its elements. (LAID: no walk: one application.) -/
theorem Tryz.slices_Index_string (b off n c : Nat) (zs : List ByteArray) (x : ByteArray) (w : World) (hz : n ≤ zs.length) (hbig : n ≤ 9223372036854775807) (hc : ∀ j, j < zs.length → w.cell? ⟨b, off + j, none⟩ = some (.string (zs.getD j ByteArray.empty))) :
    Calls Tryz.prog 92 #[.slice (some ⟨b, off, none⟩) n c, .string x] w fun e w' => e = .returned (.int .i64 (Lib.idxOfS (zs.take n) x)) ∧ w' = w := Any.slices_Index_string Tryz.lays109 b off n c zs x w hz hbig hc
open Go.Lib in
/-- The same at a slice of length 0, a nil one too: no cell is known, none is asked for. (LAID: no walk: one application.) -/
theorem Tryz.slices_Index_string_empty (a : Option Addr) (c : Nat) (x : ByteArray) (w : World) :
    Calls Tryz.prog 92 #[.slice a 0 c, .string x] w fun e w' => e = .returned (.int .i64 (Lib.idxOfS [] x)) ∧ w' = w := Any.slices_Index_string_empty Tryz.lays109 a c x w
def Tryz.lays110_ren : Go.Shelf.Ren := ⟨fun | 110 => 97 | 109 => 92 | n => n, fun | 31 => 32 | 9 => 9 | 4 => 4 | 3 => 3 | 0 => 0 | n => n, fun | n => n⟩
theorem Tryz.lays110 : Go.Proofs.Lays.n110 Tryz.prog Tryz.lays110_ren := {
  mixed := by kernel_rfl
  f109 := Tryz.func92.trans (congrArg some (by kernel_rfl))
  f110 := Tryz.func97.trans (congrArg some (by kernel_rfl))
  t0 := Tryz.underlying0
  a0 := Tryz.isAgg0
  z0 := Tryz.sizeOf0
  v0 := Tryz.zeroValue0
  t3 := Tryz.underlying3
  a3 := Tryz.isAgg3
  z3 := Tryz.sizeOf3
  v3 := Tryz.zeroValue3
  t4 := Tryz.underlying4
  a4 := Tryz.isAgg4
  z4 := Tryz.sizeOf4
  v4 := Tryz.zeroValue4
  t9 := Tryz.underlying9
  a9 := Tryz.isAgg9
  z9 := Tryz.sizeOf9
  v9 := Tryz.zeroValue9
  t31 := Tryz.underlying32
  a31 := Tryz.isAgg32
  z31 := Tryz.sizeOf32
  v31 := Tryz.zeroValue32 }
open Go.Lib in
/-- slices.Contains at []string: "Contains reports whether v is present in s.": IT RETURNS 'Lib.containsS (the elements) v', which is true just where v is among them ('Lib.containsS_iff'); the world is as it was. ITS CALLEE slices.Index IS MET BY ITS OWN CONTRACT OFF THE SHELF (lay that first): no loop is walked here. (LAID: no walk: one application.) -/
theorem Tryz.slices_Contains_string (b off n c : Nat) (zs : List ByteArray) (x : ByteArray) (w : World) (hz : n ≤ zs.length) (hbig : n ≤ 9223372036854775807) (hc : ∀ j, j < zs.length → w.cell? ⟨b, off + j, none⟩ = some (.string (zs.getD j ByteArray.empty))) :
    Calls Tryz.prog 97 #[.slice (some ⟨b, off, none⟩) n c, .string x] w fun e w' => e = .returned (.bool (Lib.containsS (zs.take n) x)) ∧ w' = w := Any.slices_Contains_string Tryz.lays110 b off n c zs x w hz hbig hc
open Go.Lib in
/-- The same at a slice of length 0, a nil one too. (LAID: no walk: one application.) -/
theorem Tryz.slices_Contains_string_empty (a : Option Addr) (c : Nat) (x : ByteArray) (w : World) :
    Calls Tryz.prog 97 #[.slice a 0 c, .string x] w fun e w' => e = .returned (.bool false) ∧ w' = w := Any.slices_Contains_string_empty Tryz.lays110 a c x w
def Tryz.laysNm216_ren : Go.Shelf.Ren := ⟨fun | 16 => 46 | n => n, fun | 24 => 32 | 9 => 9 | 4 => 4 | n => n, fun | n => n⟩
theorem Tryz.laysNm216 : Go.Proofs.Lays2.n16 Tryz.prog Tryz.laysNm216_ren := {
  mixed := by kernel_rfl
  f16 := Tryz.func46.trans (congrArg some (by kernel_rfl))
  t4 := Tryz.underlying4
  a4 := Tryz.isAgg4
  z4 := Tryz.sizeOf4
  v4 := Tryz.zeroValue4
  t9 := Tryz.underlying9
  a9 := Tryz.isAgg9
  z9 := Tryz.sizeOf9
  v9 := Tryz.zeroValue9
  t24 := Tryz.underlying32
  a24 := Tryz.isAgg32
  z24 := Tryz.sizeOf32
  v24 := Tryz.zeroValue32
  i9 := by kernel_rfl }
open Go.RowKit Go.Lib in
/-- slices.Clone at []string: "Clone returns a copy of the slice. The elements are copied using assignment, so this is a shallow clone. The result may have additional unused capacity. The result preserves the nilness of s.": OF A SLICE THAT IS NOT nil IT RETURNS A SLICE THAT IS NOT nil, OF THE SAME ELEMENTS, IN MEMORY OF THE CALL's OWN: in the how-to's words (6f): 'w'.ownsRow B e 1 v' n cells': v' begins at the head of a row among the blocks from B on (B: the heap's size at the call), not frozen, whose first cells are the elements · 'Below B w w'': below B all is as it was. The capacity is whatever the run-time gives. 'zs': what the cells behind the slice's address hold; 'zs.take n': its elements. (LAID: no walk: one application.) -/
theorem Tryz.slices_Clone_string (b off n c : Nat) (zs : List ByteArray) (w : World) (hz : n ≤ zs.length) (hbig : n * 16 ≤ 140737488355328) (hc : ∀ j, j < zs.length → w.cell? ⟨b, off + j, none⟩ = some (.string (zs.getD j ByteArray.empty))) :
    Calls Tryz.prog 46 #[.slice (some ⟨b, off, none⟩) n c] w fun e w' => ∃ v', e = .returned v' ∧ w'.ownsRow w.heap.size 9 1 v' n ((zs.take n).map (Value.string)) ∧ v' ≠ .slice none 0 0 ∧ Below w.heap.size w w' := Any.slices_Clone_string Tryz.laysNm216 b off n c zs w hz hbig hc
open Go.RowKit Go.Lib in
/-- The same at nil: nil comes back; the world is as it was. (LAID: no walk: one application.) -/
theorem Tryz.slices_Clone_string_nil (n c : Nat) (w : World) :
    Calls Tryz.prog 46 #[.slice none n c] w fun e w' => e = .returned (.slice none 0 0) ∧ w' = w := Any.slices_Clone_string_nil Tryz.laysNm216 n c w
open Go.RowKit Go.Lib in
/-- The same at a slice of length 0 that is not nil, WHATEVER ITS ADDRESS (no cell is asked for): a slice that is not nil and owns nothing comes back. (LAID: no walk: one application.) -/
theorem Tryz.slices_Clone_string_zero (a : Addr) (c : Nat) (w : World) :
    Calls Tryz.prog 46 #[.slice (some a) 0 c] w fun e w' => ∃ v', e = .returned v' ∧ w'.ownsRow w.heap.size 9 1 v' 0 [] ∧ v' ≠ .slice none 0 0 ∧ Below w.heap.size w w' := Any.slices_Clone_string_zero Tryz.laysNm216 a c w
def Tryz.laysSlE041_f46_ren : Go.Shelf.Ren := ⟨fun | 41 => 46 | n => n, fun | 22 => 32 | 23 => 9 | 4 => 4 | n => n, fun | n => n⟩
theorem Tryz.laysSlE041_f46 : Go.Proofs.SlLaysE0.n41 Tryz.prog Tryz.laysSlE041_f46_ren := {
  mixed := by kernel_rfl
  f41 := ⟨Tryz.f46.name, by decide, Tryz.func46.trans (congrArg some (by kernel_rfl))⟩
  t4 := Tryz.underlying4
  a4 := Tryz.isAgg4
  z4 := Tryz.sizeOf4
  v4 := Tryz.zeroValue4
  t22 := Tryz.underlying32
  a22 := Tryz.isAgg32
  z22 := Tryz.sizeOf32
  v22 := Tryz.zeroValue32 }
open Go.RowKit Go.Lib in
/-- slices.Clone: "Clone returns a copy of the slice. The elements are copied using assignment, so this is a shallow clone. The result may have additional unused capacity. The result preserves the nilness of s.": OF A SLICE THAT IS NOT nil IT RETURNS A SLICE THAT IS NOT nil, OF THE SAME CELLS, IN MEMORY OF THE CALL's OWN ('ownsRow': the how-to's 6f); below the heap's size at the call all is as it was. (LAID AT THE INSTANCE 'slices.Clone[[]string,string]': no walk: one application.) -/
theorem Tryz.slices_Clone (i0 : TypeInfo) (z : Value) (size bytes : Nat) (hi : Tryz.prog.info? 9 = some i0) (hz0 : i0.zero = some z) (hz1 : i0.size = size) (hz2 : i0.bytes = bytes) (hzs : z.cells.size = size) (hsz : 0 < size) (z23 : ∀ w, (Go.sizeOf 9).run Tryz.prog w = .ok size w) (b off n c : Nat) (news : List Value) (w : World) (hl : news.length = n * size) (hn : n ≤ maxLen) (hbig : n * bytes ≤ 140737488355328) (hc : ∀ j u, news[j]? = some u → w.cell? ⟨b, off + j, none⟩ = some u) (h1 : ∀ u ∈ news, u.oneCell' = true) :
    Calls Tryz.prog 46 #[.slice (some ⟨b, off, none⟩) n c] w fun e w' => ∃ v', e = .returned v' ∧ w'.ownsRow w.heap.size 9 size v' n news ∧ v' ≠ .slice none 0 0 ∧ Below w.heap.size w w' := AnyE.slices_Clone Tryz.laysSlE041_f46 i0 z size bytes hi hz0 hz1 hz2 hzs hsz z23 b off n c news w hl hn hbig hc h1
open Go.RowKit Go.Lib in
/-- The same at nil: nil comes back; the world is as it was; nothing is asked of the element's type. (LAID AT THE INSTANCE 'slices.Clone[[]string,string]': no walk: one application.) -/
theorem Tryz.slices_Clone_nil (n c : Nat) (w : World) :
    Calls Tryz.prog 46 #[.slice none n c] w fun e w' => e = .returned (.slice none 0 0) ∧ w' = w := AnyE.slices_Clone_nil Tryz.laysSlE041_f46 n c w
end Go.Proofs

namespace Go.Proofs.YtpgdijbfkahepaaGreatDoor
section
open Go.RowKit
theorem ret_int {k : IntKind} {a b : Int} (h : a = b) : Ending.returned (.int k a) = .returned (.int k b) := by rw [h]
theorem ret_bool {a b : Bool} (h : a = b) : Ending.returned (.bool a) = .returned (.bool b) := by rw [h]
theorem ret_str {a b : ByteArray} (h : a = b) : Ending.returned (.string a) = .returned (.string b) := by rw [h]
/-- Block k is old (below base) or bears the element type t. -/
def Fit (w : World) (base : Nat) (t : TypeId) (k : Nat) : Prop := k < w.heap.size ∧ (k < base ∨ ∃ cs fz, w.heap[k]? = some (.cells cs t fz))
/-- From w to w' only blocks from base on, of the types in T, have turned. -/
structure Fr (base : Nat) (T : List TypeId) (w w' : World) : Prop where
 os : w'.os = w.os
 tape : w'.tape = w.tape
 output : w'.output = w.output
 size : w.heap.size ≤ w'.heap.size
 block : ∀ k, k < w.heap.size → (k < base ∨ ∃ cs t fz, w.heap[k]? = some (.cells cs t fz) ∧ t ∉ T) → w'.heap[k]? = w.heap[k]?
theorem Fr.of_below {base : Nat} {T : List TypeId} {w w' : World} (h : Below w.heap.size w w') : Fr base T w w' :=
 ⟨h.os, h.tape, h.output, h.size, fun k hk _ => h.block k hk⟩
theorem Fr.trans {base : Nat} {T : List TypeId} {a b c : World} (h : Fr base T a b) (k : Fr base T b c) : Fr base T a c :=
 ⟨k.os.trans h.os, k.tape.trans h.tape, k.output.trans h.output, Nat.le_trans h.size k.size, fun i hi hc => by
  have e := h.block i hi hc
  rw [k.block i (Nat.lt_of_lt_of_le hi h.size) (by rw [e]; exact hc), e]⟩
theorem Fit.keep {base : Nat} {T : List TypeId} {w w' : World} {t : TypeId} {k : Nat} (h : Fit w base t k) (f : Fr base T w w') (ht : t ∉ T) : Fit w' base t k ∧ w'.heap[k]? = w.heap[k]? := by
 have e := f.block k h.1 (by
  rcases h.2 with h | ⟨cs, fz, h⟩
  ·exact .inl h
  ·exact .inr ⟨cs, t, fz, h, ht⟩)
 exact ⟨⟨Nat.lt_of_lt_of_le h.1 f.size, by rw [e]; exact h.2⟩, e⟩
/-- The slice value v has n elements of 'size' cells each, which are the cells xs. -/
def Seq (w : World) (base : Nat) (t : TypeId) (size : Nat) (v : Value) (n : Nat) (xs : List Value) : Prop :=
 xs.length = n * size ∧ ∃ A c, v = .slice A n c ∧ n ≤ c ∧ c ≤ maxLen ∧
  (0 < n → ∃ b off, A = some ⟨b, off, none⟩ ∧ Fit w base t b ∧ ∀ j u, xs[j]? = some u → w.cell? ⟨b, off + j, none⟩ = some u)
theorem Seq.keep {base : Nat} {T : List TypeId} {w w' : World} {t size n : Nat} {v : Value} {xs : List Value} (h : Seq w base t size v n xs) (f : Fr base T w w') (ht : t ∉ T) : Seq w' base t size v n xs := by
 obtain ⟨h1, A, c, hv, hn, hc, h2⟩ := h
 refine ⟨h1, A, c, hv, hn, hc, fun h0 => ?_⟩
 obtain ⟨b, off, hA, hf, hx⟩ := h2 h0
 obtain ⟨hf', e⟩ := hf.keep f ht
 exact ⟨b, off, hA, hf', fun j u hu => (World.cell?_of_block (a := ⟨b, off + j, none⟩) e).trans (hx j u hu)⟩
theorem Seq.below {base : Nat} {w w' : World} {t size n : Nat} {v : Value} {xs : List Value} (h : Seq w base t size v n xs) (f : Below w.heap.size w w') : Seq w' base t size v n xs :=
 h.keep (Fr.of_below (base := base) (T := []) f) (by simp)
theorem Seq.nil (w : World) (base : Nat) (t : TypeId) (size : Nat) : Seq w base t size (.slice none 0 0) 0 [] :=
 ⟨by simp, none, 0, rfl, Nat.le_refl _, by unfold maxLen; omega, fun h => absurd h (by omega)⟩
theorem Seq.of_own {w : World} {base : Nat} {t size n : Nat} {v : Value} {xs : List Value} {base' : Nat} (h : w.ownsRow base t size v n xs) : Seq w base' t size v n xs := by
 obtain ⟨h1, h2⟩ := h
 refine ⟨h1, ?_⟩
 rcases h2 with ⟨rfl, rfl⟩ | ⟨g, cap, cur, rfl, hg, hh, hn, hc, hs, hx⟩
 ·exact ⟨none, 0, rfl, Nat.le_refl _, by unfold maxLen; omega, fun h => absurd h (by omega)⟩
 ·refine ⟨_, _, rfl, hn, hc, fun h0 => ⟨g, 0, rfl, ⟨?_, .inr ⟨cur, _, hh⟩⟩, fun j u hu => ?_⟩⟩
  ·rcases Nat.lt_or_ge g w.heap.size with hlt | hge
   ·exact hlt
   ·rw [Array.getElem?_eq_none hge] at hh; cases hh
  ·rw [← hx] at hu
   rw [List.getElem?_take] at hu
   split at hu
   ·simp [World.cell?, hh]; simpa using hu
   ·cases hu
theorem bcell {W w1 : World} (hb : Below W.heap.size W w1) : (∀ b o, b < W.heap.size → w1.cell? ⟨b, o, none⟩ = W.cell? ⟨b, o, none⟩) ∧ (∀ b o, b < W.heap.size → w1.frozen? ⟨b, o, none⟩ = W.frozen? ⟨b, o, none⟩) :=
 ⟨fun b o h => hb.cell (p := ⟨b, o, none⟩) h, fun b o h => hb.frozen (p := ⟨b, o, none⟩) h⟩
/-- a cell of an old block reads as it did -/
theorem bat {W w1 : World} {b o : Nat} {v : Value} (hb : Below W.heap.size W w1) (h : b < W.heap.size) (hc : W.cell? ⟨b, o, none⟩ = some v) : w1.cell? ⟨b, o, none⟩ = some v :=
 (hb.cell (p := ⟨b, o, none⟩) h).trans hc
end
end Go.Proofs.YtpgdijbfkahepaaGreatDoor
