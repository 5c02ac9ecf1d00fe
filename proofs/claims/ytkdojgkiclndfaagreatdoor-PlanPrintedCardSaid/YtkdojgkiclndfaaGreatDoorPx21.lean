/- Contracts, packed: Kp Qk Zb Zc Uj Uo Un. -/
import Derived.Test.YtkdojgkiclndfaaGreatDoorPx1
import Derived.Test.YtkdojgkiclndfaaGreatDoorPx13
import Derived.Test.YtkdojgkiclndfaaGreatDoorPx16
import Derived.Test.YtkdojgkiclndfaaGreatDoorPx17
import Derived.Laws.Concat
import Derived.Shelf.SlicesE.Clone
set_option linter.unusedVariables false
set_option linter.unusedSimpArgs false
namespace Go.Proofs.YtkdojgkiclndfaaGreatDoor
section
open Go.RowKit FracM
/-- the words of a variable, in its cells -/
def WordsAt (w : World) (g : Nat) (l : List (List UInt8)) : Prop := g < w.heap.size ∧ ∀ (k : Nat) (x : List UInt8), l[k]? = some x → w.cell? ⟨g, k, none⟩ = some (.string (bsL x))
theorem WordsAt.below {w w' : World} {g : Nat} {l : List (List UInt8)} (h : WordsAt w g l) (hb : Below w.heap.size w w') : WordsAt w' g l := ⟨Nat.lt_of_lt_of_le h.1 hb.size, fun k x hx => (hb.cell h.1).trans (h.2 k x hx)⟩
theorem WordsAt.only {w w' : World} {g q : Nat} {l : List (List UInt8)} (h : WordsAt w g l) (hb : Only q w w') (hq : g ≠ q) : WordsAt w' g l := ⟨Nat.lt_of_lt_of_le h.1 hb.size, fun k x hx => (World.cell?_of_block (a := ⟨g, k, none⟩) (hb.block g h.1 hq)).trans (h.2 k x hx)⟩
/-- a block behind the variables -/
def Far (p : Nat) : Prop := 3 < p ∧ 2 < p ∧ 1 < p ∧ 0 < p
theorem Far.le {p q : Nat} (h : Far p) (k : p ≤ q) : Far q := ⟨Nat.lt_of_lt_of_le h.1 k, Nat.lt_of_lt_of_le h.2.1 k, Nat.lt_of_lt_of_le h.2.2.1 k, Nat.lt_of_lt_of_le h.2.2.2 k⟩
/-- all variables of the parser; q: the block of the parser's state -/
structure WordsP (w : World) (q : Nat) : Prop where
 grp : WordsAt w 3 groupsT
 fn : WordsAt w 2 funcsT
 mat : WordsAt w 1 matchT
 opr : WordsAt w 0 opersT
 far : Far q
theorem WordsP.below {w w' : World} {q : Nat} (h : WordsP w q) (hb : Below w.heap.size w w') : WordsP w' q := ⟨h.grp.below hb, h.fn.below hb, h.mat.below hb, h.opr.below hb, h.far⟩
theorem WordsP.only {w w' : World} {q p : Nat} (h : WordsP w q) (hb : Only p w w') (hp : Far p) : WordsP w' q :=
 ⟨h.grp.only hb (Nat.ne_of_lt hp.1), h.fn.only hb (Nat.ne_of_lt hp.2.1), h.mat.only hb (Nat.ne_of_lt hp.2.2.1), h.opr.only hb (Nat.ne_of_lt hp.2.2.2), h.far⟩
theorem getD_map (l : List (List UInt8)) (k : Nat) : (l.map bsL).getD k ByteArray.empty = bsL (l.getD k []) := by
 rw [List.getD_eq_getElem?_getD, List.getD_eq_getElem?_getD, List.getElem?_map]
 cases l[k]? <;> rfl
theorem idx_eq (l : List (List UInt8)) (x : List UInt8) : Lib.idxOfS (l.map bsL) (bsL x) = idxT l x := by
 have ht : l.map bsL = (l.map bsL).take l.length := by rw [List.take_of_length_le (by simp)]
 rw [ht]
 unfold idxT
 cases h : l.findIdx? (fun y => y == x) with
 | none =>
  rw [List.findIdx?_eq_none_iff] at h
  refine Lib.idxOfS_miss _ _ _ fun j hj e => ?_
  rw [getD_map, bsL_inj] at e
  have := h (l[j]) (List.getElem_mem hj)
  rw [List.getD_eq_getElem?_getD, List.getElem?_eq_getElem hj] at e
  simp at e this
  exact this e
 | some i =>
  rw [List.findIdx?_eq_some_iff_getElem] at h
  obtain ⟨hi, h1, h2⟩ := h
  refine Lib.idxOfS_hit _ _ i _ hi (by simp) ?_ fun j hj e => ?_
  ·rw [getD_map, bsL_inj, List.getD_eq_getElem?_getD, List.getElem?_eq_getElem hi]
   simpa using h1
  ·rw [getD_map, bsL_inj, List.getD_eq_getElem?_getD, List.getElem?_eq_getElem (by omega)] at e
   have := h2 j hj
   simp at e this
   exact this e
theorem pindex_any (g n : Nat) (l : List (List UInt8)) (hn : n = l.length) (hl : n ≤ 100) (x : List UInt8) (w : World) (h : WordsAt w g l) :
  Calls Tryz.prog 139 #[.slice (some ⟨g, 0, none⟩) n n, .string (bsL x)] w fun e w' => e = .returned (.int .i64 (idxT l x)) ∧ w = w' := by
 subst hn
 refine (Tryz.slices_Index_string g 0 l.length l.length (l.map bsL) (bsL x) w (by simp) (by omega) (fun j hj => ?_)).mono ?_
 ·rw [getD_map, Nat.zero_add]
  simp only [List.length_map] at hj
  exact h.2 j _ (by rw [List.getD_eq_getElem?_getD, List.getElem?_eq_getElem hj]; rfl)
 ·rintro e w' ⟨rfl, rfl⟩
  refine ⟨?_, rfl⟩
  rw [List.take_of_length_le (by simp), idx_eq]
end
section
open Go.RowKit FracM
def AnyP : Nat → Nat → Prop := fun _ _ => True
theorem kid2 {w : World} {P : Nat → Nat → Prop} {d : Nd} {ks : List Tree} {mv bv : Value} {A : Option Addr} {n c : Nat} (h : Nod w P d ks mv bv (.slice A n c)) (i : Nat) (hi : i < ks.length) :
  ∃ e es b off B1 m1 B2 m2 B3 m3, ks[i]? = some (.node e es) ∧ A = some ⟨b, off, none⟩ ∧ b < w.heap.size ∧ (∃ z, P b z) ∧ At11 w b (off + i * 11) e (.slice B1 e.ms.length m1) (.slice B2 e.bys.length m2) (.slice B3 es.length m3) ∧ TreeAt w P (.node e es) (.slice B1 e.ms.length m1, .slice B2 e.bys.length m2, .slice B3 es.length m3) := by
 obtain ⟨x, hx⟩ : ∃ x, ks[i]? = some x := ⟨ks[i], List.getElem?_eq_getElem _⟩
 obtain ⟨e, es⟩ := x
 obtain ⟨b, off, mv', bv', kv', rfl, hb, hp, h11, hT⟩ := h.kid i e es hx
 obtain ⟨B1, m1, rfl, -⟩ := hT.nod.ms.form
 obtain ⟨B2, m2, rfl, -⟩ := hT.nod.bys.form
 obtain ⟨B3, m3, rfl, -⟩ := hT.nod.kform
 exact ⟨e, es, b, off, B1, m1, B2, m2, B3, m3, hx, rfl, hb, hp, h11, hT⟩
end
section
open Go.RowKit
def bs (l : List UInt8) : ByteArray := ⟨l.toArray⟩
end
section
open Go.RowKit
end
section
open Go.Shelf Go.RowKit Go.Lib
variable {P : Program} {ρ : Ren}
set_option maxHeartbeats 2000000 in
set_option maxRecDepth 100000 in
theorem clone_zero (L : SlLaysE0.n41 P ρ) (i0 : TypeInfo) (z : Value) (size bytes : Nat) (hi : P.info? (ρ.t 23) = some i0) (hz0 : i0.zero = some z) (hz1 : i0.size = size) (hz2 : i0.bytes = bytes) (hzs : z.cells.size = size) (hsz : 0 < size)
  (z23 : ∀ w, (Go.sizeOf (ρ.t 23)).run P w = .ok size w) (a : Addr) (c : Nat) (w : World) :
  Calls P (ρ.f 41) #[.slice (some a) 0 c] w fun e w' => ∃ v', e = .returned v' ∧ w'.ownsRow w.heap.size (ρ.t 23) size v' 0 [] ∧ Below w.heap.size w w' := by
 have mixed := L.mixed; have t4 := L.t4; have a4 := L.a4; have z4 := L.z4; have v4 := L.v4; have t22 := L.t22; have a22 := L.a22; have z22 := L.z22; have v22 := L.v22
 have q22 : ∀ (w : World) (a : Option Addr) (n c n' c' : Nat), (binOp .eql (ρ.t 22) (.slice a n c) (.slice none n' c')).run P w = .ok (.bool a.isNone) w := fun w a n c n' c' => Lib.run_eql_slice_nil w _ _ a n c n' c' L.t22
 have u22 : ∀ w, Sem.run P (underlying (ρ.t 22)) w = .ok (TypeDesc.slice (ρ.t 23)) w := run_underlying t22
 obtain ⟨_, _, FG⟩ := L.f41
 go_enter FG, SlBodyN.n41_ntmps ρ
 go_wp2_with (at_builtin; refine wpList_append_own _ rfl _ _ (ρ.t 22) rfl w.heap.size (ρ.t 23) i0 z size bytes t22 hi hz0 hz1 hz2 hzs hsz _ _ _ rfl (World.ownsRow_made w #[] 0 (Nat.le_refl _) (Nat.zero_le _) (by simp)) a 0 c [] rfl ?qc1 ?qc2 ?qc3 ?qc4 ?qc5 ?qc6 ?_)
 case qc1 => simp
 case qc2 => intro j u hj; simp at hj
 case qc3 => intro u hu; cases hu
 case qc4 => exact Nat.zero_le _
 case qc5 => omega
 case qc6 => simp
 intro v' w1 hown hgrow hnil
 go_wp2
 go_ret
 refine ⟨v', rfl, by simpa using hown, ?_⟩
 exact ((Below.refl _ w).alloc (Nat.le_refl _) _).grown hgrow (by simp) (by intro k hk; simp [Value.ownBlock] at hk; omega)
/-- Clone of a slice that lies as cells -/
theorem clone_seq (L : SlLaysE0.n41 P ρ) (i0 : TypeInfo) (z : Value) (size bytes : Nat) (hi : P.info? (ρ.t 23) = some i0) (hz0 : i0.zero = some z) (hz1 : i0.size = size) (hz2 : i0.bytes = bytes) (hzs : z.cells.size = size) (hsz : 0 < size)
  (z23 : ∀ w, (Go.sizeOf (ρ.t 23)).run P w = .ok size w) {Q : Nat → Nat → Prop} {v : Value} {n : Nat} {xs : List Value} {w : World} (h : SeqP w Q size v n xs) (hbig : n * bytes ≤ 140737488355328) (h1 : ∀ u ∈ xs, u.oneCell' = true) :
  Calls P (ρ.f 41) #[v] w fun e w' => ∃ v', e = .returned v' ∧ SeqP w' (fun b _ => w.heap.size ≤ b) size v' n xs ∧ Below w.heap.size w w' := by
 obtain ⟨hl, A, c, rfl, hn, hc, hx⟩ := h
 rcases Nat.eq_zero_or_pos n with h0 | h0
 ·subst h0
  obtain rfl : xs = [] := List.eq_nil_of_length_eq_zero (by simpa using hl)
  cases A with
  | none =>
   refine (AnyE.slices_Clone_nil L 0 c w).mono ?_
   rintro e w' ⟨rfl, rfl⟩
   exact ⟨_, rfl, SeqP.nil _ _ _, Below.refl _ _⟩
  | some a =>
   refine (clone_zero L i0 z size bytes hi hz0 hz1 hz2 hzs hsz z23 a c w).mono ?_
   rintro e w' ⟨v', rfl, ho, hb⟩
   exact ⟨v', rfl, SeqP.of_own ho fun b _ hb _ => hb, hb⟩
 ·obtain ⟨b, off, rfl, hb, hp, hcell⟩ := hx h0
  refine (AnyE.slices_Clone L i0 z size bytes hi hz0 hz1 hz2 hzs hsz z23 b off n c xs w hl (by omega) hbig hcell h1).mono ?_
  rintro e w' ⟨v', rfl, ho, -, hb⟩
  exact ⟨v', rfl, SeqP.of_own ho fun b _ hb _ => hb, hb⟩
end
section
open Go.RowKit FracM
end
section
open Go.RowKit FracM
def popsZ (k : Int) : Int := if k = 0 ∨ k = 1 then 0 else if k = 2 then 1 else if k = 3 then 2 else -1
set_option maxHeartbeats 4000000 in
theorem pops_any (k : Int) (w : World) : Calls Tryz.prog 85 #[.int .i64 k] w fun e w' => e = .returned (.int .i64 (popsZ k)) ∧ w' = w := by
 obtain ⟨r, hr⟩ : ∃ r, popsZ k = r := ⟨_, rfl⟩
 have HR := Box.mk hr
 rw [hr]
 clear hr
 by_cases h0 : k = 0
 ·subst h0
  go_enter Tryz.func85, Tryz.ntmps85
  go_wp2_with fail
  go_ret
  exact ⟨by rw [← HR.out]; rfl, rfl⟩
 by_cases h1 : k = 1
 ·subst h1
  go_enter Tryz.func85, Tryz.ntmps85
  go_wp2_with fail
  go_ret
  exact ⟨by rw [← HR.out]; rfl, rfl⟩
 by_cases h2 : k = 2
 ·subst h2
  go_enter Tryz.func85, Tryz.ntmps85
  go_wp2_with fail
  go_ret
  exact ⟨by rw [← HR.out]; rfl, rfl⟩
 by_cases h3 : k = 3
 ·subst h3
  go_enter Tryz.func85, Tryz.ntmps85
  go_wp2_with fail
  go_ret
  exact ⟨by rw [← HR.out]; rfl, rfl⟩
 have e0 : (k == 0) = false := by simpa using h0
 have e1 : (k == 1) = false := by simpa using h1
 have e2 : (k == 2) = false := by simpa using h2
 have e3 : (k == 3) = false := by simpa using h3
 have HE : Box (r = -1) := ⟨by rw [← HR.out]; unfold popsZ; rw [if_neg (by omega), if_neg h2, if_neg h3]⟩
 clear h0 h1 h2 h3 HR
 go_enter Tryz.func85, Tryz.ntmps85
 go_wp2_with fail
 go_ret
 exact ⟨by rw [HE.out]; rfl, rfl⟩
end
end Go.Proofs.YtkdojgkiclndfaaGreatDoor
