/- Contracts, packed: Ot Ou. -/
import Derived.Test.YthoibeajhdhdhaaGreatDoorPy43
import Derived.Test.YthoibeajhdhdhaaGreatDoorPy47
import Derived.Test.YthoibeajhdhdhaaGreatDoorPy51
import Derived.Laws.Concat
import Derived.Laws.BytesArg
set_option linter.unusedVariables false
set_option linter.unusedSimpArgs false
namespace Go.Proofs.YthoibeajhdhdhaaGreatDoor
section
open Go.RowKit FracM
set_option maxHeartbeats 4000000 in
set_option maxRecDepth 100000 in
theorem parserRaw_walk (s : ByteArray) (w : World) (hw : LibP w) (hs : s.size ≤ maxLen) :
  Calls Tryz.prog 4 #[.string s] w fun e w' => e = .returned (.bool true) ∧ Below w.heap.size w w' := by
 have HW := Box.mk hw
 have HS := Box.mk hs
 clear hw hs
 go_enter Tryz.func4, Tryz.ntmps4
 go_wp2_with fail
 refine (short_any s 150 _ HS.out (by omega)).mono ?_
 rintro e w1 ⟨rfl, rfl⟩
 have hfew := short_size s 150
 generalize short s 150 = few at *
 have HB0 : Box (Below w.heap.size w w) := ⟨Below.refl _ _⟩
 go_wp2_with fail
 refine (agrees_any _ _ (by have hfew2 : few.data.size ≤ 150 := hfew; have hq : ∀ l : Array UInt8, (⟨l⟩ : ByteArray).size = l.size := fun _ => rfl; unfold maxLen; (try rw [ByteArray.size_append]); (try rw [ByteArray.size_append]); (try simp only [hq, List.size_toArray, List.length_cons, List.length_nil]); omega) (HW.out.below HB0.out).v).mono ?_
 rintro e w2 ⟨rfl, hb⟩
 have HB1 := Box.mk (bthen HB0.out hb (Nat.le_refl _))
 clear hb HB0
 go_wp2_with fail
 refine (agrees_any _ _ (by have hfew2 : few.data.size ≤ 150 := hfew; have hq : ∀ l : Array UInt8, (⟨l⟩ : ByteArray).size = l.size := fun _ => rfl; unfold maxLen; (try rw [ByteArray.size_append]); (try rw [ByteArray.size_append]); (try simp only [hq, List.size_toArray, List.length_cons, List.length_nil]); omega) (HW.out.below HB1.out).v).mono ?_
 rintro e w3 ⟨rfl, hb⟩
 have HB2 := Box.mk (bthen HB1.out hb (Nat.le_refl _))
 clear hb HB1
 go_wp2_with fail
 refine (agrees_any _ _ (by have hfew2 : few.data.size ≤ 150 := hfew; have hq : ∀ l : Array UInt8, (⟨l⟩ : ByteArray).size = l.size := fun _ => rfl; unfold maxLen; (try rw [ByteArray.size_append]); (try rw [ByteArray.size_append]); (try simp only [hq, List.size_toArray, List.length_cons, List.length_nil]); omega) (HW.out.below HB2.out).v).mono ?_
 rintro e w4 ⟨rfl, hb⟩
 have HB3 := Box.mk (bthen HB2.out hb (Nat.le_refl _))
 clear hb HB2
 go_wp2_with fail
 refine (agrees_any _ _ (by have hfew2 : few.data.size ≤ 150 := hfew; have hq : ∀ l : Array UInt8, (⟨l⟩ : ByteArray).size = l.size := fun _ => rfl; unfold maxLen; (try rw [ByteArray.size_append]); (try rw [ByteArray.size_append]); (try simp only [hq, List.size_toArray, List.length_cons, List.length_nil]); omega) (HW.out.below HB3.out).v).mono ?_
 rintro e w5 ⟨rfl, hb⟩
 have HB4 := Box.mk (bthen HB3.out hb (Nat.le_refl _))
 clear hb HB3
 go_wp2_with fail
 refine (agrees_any _ _ (by have hfew2 : few.data.size ≤ 150 := hfew; have hq : ∀ l : Array UInt8, (⟨l⟩ : ByteArray).size = l.size := fun _ => rfl; unfold maxLen; (try rw [ByteArray.size_append]); (try rw [ByteArray.size_append]); (try simp only [hq, List.size_toArray, List.length_cons, List.length_nil]); omega) (HW.out.below HB4.out).v).mono ?_
 rintro e w6 ⟨rfl, hb⟩
 have HB5 := Box.mk (bthen HB4.out hb (Nat.le_refl _))
 clear hb HB4
 go_wp2_with fail
 refine (lives_true _ (HW.out.below HB5.out)).mono ?_
 rintro e w10 ⟨rfl, hb⟩
 have hbf := bthen HB5.out hb (Nat.le_refl _)
 go_wp2_with fail
 go_ret
 exact ⟨rfl, hbf⟩
end
section
open Go.RowKit FracM
def RetTx (m : Nat) (w : World) (e : Ending) (w' : World) : Prop := ∃ t : ByteArray, e = .returned (.string t) ∧ t.size ≤ m ∧ Below w.heap.size w w'
set_option maxHeartbeats 2000000 in
set_option maxRecDepth 100000 in
theorem mutated_any (s : ByteArray) (at' how c : Int) (w : World) (hs : s.size ≤ 20000) (a1 : -9223372036854775808 ≤ at') (a2 : at' ≤ 9223372036854775807) (h1 : -9223372036854775808 ≤ how) (h2 : how ≤ 9223372036854775807) (c1 : 0 ≤ c) (c2 : c ≤ 255) :
  Calls Tryz.prog 13 #[.string s, .int .i64 at', .int .i64 how, .int .u8 c] w (RetTx 20010 w) := by
 obtain ⟨k0, k1⟩ := around_bd at' ((s.size : Int) + 1) (by omega)
 obtain ⟨q0, q1⟩ := around_bd how 3 (by omega)
 have HA := Box.mk (And.intro (And.intro a1 a2) (And.intro h1 h2))
 clear a1 a2 h1 h2
 have hcv : (convert 67 9 (.slice (some ⟨w.heap.size, 0, none⟩) 1 1)).run Tryz.prog (w.alloc (.cells #[.int .u8 c] 5)) = .ok (.string (strOfNums [c])) (w.alloc (.cells #[.int .u8 c] 5)) :=
  run_convert_bytes_arg _ 67 5 Tryz.underlying67 Tryz.underlying5 w.heap.size 0 1 1 [c] rfl (fun i hi => by
   obtain rfl : i = 0 := by omega
   simp) 9 Tryz.underlying9
 have ho : (strOfNums [c]).size = 1 := rfl
 generalize strOfNums [c] = one at hcv ho
 go_enter Tryz.func13, Tryz.ntmps13
 go_wp2_with fail
 refine (around_any at' ((s.size : Int) + 1) _ HA.out.1.1 HA.out.1.2 (by omega) (by omega)).mono ?_
 rintro e w1 ⟨rfl, rfl⟩
 generalize around at' ((s.size : Int) + 1) = k at *
 obtain ⟨k, rfl⟩ : ∃ n : Nat, k = n := ⟨k.toNat, by omega⟩
 go_upto_region 3 with (fail)
 have HB := Box.mk (bel1 w (.cells #[.int .u8 c] 5))
 clear hcv
 generalize w.alloc (.cells #[.int .u8 c] 5) = W at *
 have hk3 : k ≤ s.size := by omega
 have hk4 : (k : Int) ≤ (s.size : Int) := by omega
 by_cases hk : (s.size : Int) = k
 ·go_upto_region 4 with (fail)
  go_region
  all_goals
   go_wp2_with fail
   go_ret
   exact ⟨_, rfl, by simp [ByteArray.size_append, ByteArray.size_extract, ho]; omega, by first | exact HB.out | exact bdrew HB.out 1⟩
 ·have hk5 : (k : Int) + 1 ≤ (s.size : Int) := by omega
  have hk6 : k + 1 ≤ s.size := by omega
  obtain ⟨q, HQ⟩ : ∃ q, Box (around how 3 = q) := ⟨_, ⟨rfl⟩⟩
  rw [HQ.out] at q0 q1
  have hq : q = 0 ∨ q = 1 ∨ q = 2 := by omega
  clear q0 q1
  rcases hq with rfl | rfl | rfl
  ·go_upto_region 4 with (go_at_call 18; refine (around_any how 3 _ HA.out.2.1 HA.out.2.2 (by omega) (by omega)).mono ?_; rintro e w' ⟨rfl, rfl⟩; rw [HQ.out])
   go_region
   all_goals
    go_wp2_with fail
    go_ret
    exact ⟨_, rfl, by simp [ByteArray.size_append, ByteArray.size_extract, ho]; omega, by first | exact HB.out | exact bdrew HB.out 1⟩
  ·go_upto_region 6 with (go_at_call 18; refine (around_any how 3 _ HA.out.2.1 HA.out.2.2 (by omega) (by omega)).mono ?_; rintro e w' ⟨rfl, rfl⟩; rw [HQ.out])
   go_region
   all_goals
    go_wp2_with fail
    go_ret
    exact ⟨_, rfl, by simp [ByteArray.size_append, ByteArray.size_extract, ho]; omega, by first | exact HB.out | exact bdrew HB.out 1⟩
  ·go_upto_region 7 with (go_at_call 18; refine (around_any how 3 _ HA.out.2.1 HA.out.2.2 (by omega) (by omega)).mono ?_; rintro e w' ⟨rfl, rfl⟩; rw [HQ.out])
   go_region
   all_goals
    go_wp2_with fail
    go_ret
    exact ⟨_, rfl, by simp [ByteArray.size_append, ByteArray.size_extract, ho]; omega, by first | exact HB.out | exact bdrew HB.out 1⟩
set_option maxHeartbeats 1000000 in
set_option maxRecDepth 100000 in
theorem rloose_any (t : Tree) (P : Nat → Nat → Prop) (w : World) (s : Sl) (hT : TreeAt w P t s) (hc : chk t = 0) (hp : prtB t = true) (hn : nds t ≤ 400) : Calls Tryz.prog 15 #[.agg (ndC t.d s.1 s.2.1 s.2.2)] w (RetB (.string (bsL (showR true t 1))) w) := by
 have HH := Box.mk (And.intro hc (And.intro hp hn))
 obtain ⟨d, ks⟩ := t
 obtain ⟨mv, bv, kv⟩ := s
 have HN := Box.mk (N1.start hT)
 clear hT hc hp hn
 simp only [Tree.d]
 go_enter Tryz.func15, Tryz.ntmps15
 go_upto_region 1 with (fail)
 generalize w.alloc (.cells (ndC d _ _ _) 29) = wr at HN ⊢
 obtain ⟨c0, c1, c2, c3, c4, c5, c6, c7, c8, c9, c10⟩ := HN.out.c
 simp only [Nat.zero_add] at c1 c2 c3 c4 c5 c6 c7 c8 c9 c10
 go_wp2_with fail
 refine (rshow_any true (.node d ks) 1 1 P _ (mv, bv, kv) (by omega) rfl HH.out.1 HH.out.2.1 HH.out.2.2 HN.out.nod.tree).mono ?_
 rintro e w1 ⟨rfl, hb⟩
 have HN1 := Box.mk (HN.out.next hb)
 clear hb c0 c1 c2 c3 c4 c5 c6 c7 c8 c9 c10
 go_wp2_with fail
 go_ret
 exact ⟨rfl, HN1.out.below⟩
theorem tokM_off {i : Nat} {c : UInt8} {r : List UInt8} (h : (tokM i c r).1 = 0) : (tokM i c r).2.1.off = i := by
 unfold tokM at *
 split
 ·rfl
 next h1 =>
 rw [if_neg h1] at h
 split
 ·rfl
 next h2 =>
 rw [if_neg h2] at h
 split
 ·next h3 =>
  rw [if_pos h3] at h
  unfold tokT at *
  split
  ·next q => rw [if_pos q] at h; simp at h
  ·next q =>
   rw [if_neg q] at h
   split
   ·rfl
   ·next q2 => rw [if_neg q2] at h; simp at h
 ·rfl
theorem lexM_off : ∀ (n i : Nat) (l : List UInt8), ∀ t ∈ (lexM n i l).1, t.off ≤ i + l.length := by
 intro n
 induction n with
 | zero => intro i l t ht; simp [lexM] at ht
 | succ n ih =>
  intro i l
  cases l with
  | nil => intro t ht; simp [lexM] at ht
  | cons c r =>
   rw [lexM]
   split
   ·intro t ht
    have := ih (i + 1) r t ht
    simp only [List.length_cons]
    omega
   ·split
    ·next he =>
     intro t ht
     rcases List.mem_cons.1 ht with rfl | ht
     ·rw [tokM_off he]; omega
     ·have := ih _ _ t ht
      have h2 := tokM_le he
      rw [List.length_drop] at this
      omega
    ·intro t ht; simp at ht
theorem retTk_lex {s : ByteArray} {w w' : World} {e : Ending} (h : RetTk s w e w') : Below w.heap.size w w' ∧
    ((∃ a er : Int, er ≠ 0 ∧ e = .returned (.tuple #[.slice none 0 0, .int .i64 a, .int .i64 er])) ∨
     (s.size ≤ 2000 ∧ ∃ A c toks, e = .returned (.tuple #[.slice A toks.length c, .int .i64 0, .int .i64 0]) ∧ SeqP w' (fun b _ => w.heap.size ≤ b) 4 (.slice A toks.length c) toks.length (toks.flatMap tokL) ∧ (∀ t ∈ toks, t.off ≤ s.size) ∧ toks.length ≤ s.size ∧ toks = (lexM s.size 0 (lst s)).1 ∧ (lexM s.size 0 (lst s)).2.1 = 0)) := by
  obtain ⟨hb, h⟩ := h
  refine ⟨hb, ?_⟩
  have hl : (lst s).length = s.size := data_size s
  by_cases h1 : 2000 < s.size
  · rw [if_pos h1] at h
    exact .inl ⟨2000, 4, by decide, h⟩
  rw [if_neg h1] at h
  by_cases h2 : (lexM s.size 0 (lst s)).2.1 = 0
  · rw [if_pos h2] at h
    obtain ⟨A, n, c, hn, he, hq⟩ := h
    subst hn
    obtain ⟨k1, k2⟩ := lexM_ok s.size 0 (lst s) (by rw [hl]; omega)
    refine .inr ⟨by omega, A, c, _, he, hq, fun t ht => ?_, by rw [hl] at k2; exact k2, rfl, h2⟩
    have := lexM_off _ _ _ t ht
    rw [hl] at this
    omega
  · rw [if_neg h2] at h
    exact .inl ⟨_, _, h2, h⟩
theorem toks_at {w : World} {P : Nat → Nat → Prop} {A : Option Addr} {c : Nat} {toks : List Tok} (h : SeqP w P 4 (.slice A toks.length c) toks.length (toks.flatMap tokL)) {k : Nat} {t : Tok} (ht : toks[k]? = some t) : ∃ b off, A = some ⟨b, off, none⟩ ∧ b < w.heap.size ∧ toks.length ≤ c ∧ c ≤ maxLen ∧
  w.cell? ⟨b, off + k * 4, none⟩ = some (.int .i64 t.kind) ∧ w.cell? ⟨b, off + k * 4 + 1, none⟩ = some (.string (bsL t.text)) ∧ w.cell? ⟨b, off + k * 4 + 2, none⟩ = some (.int .i64 t.n) ∧ w.cell? ⟨b, off + k * 4 + 3, none⟩ = some (.int .i64 (t.off : Int)) := by
 obtain ⟨_, A', c', hv, h3, h4, h5⟩ := h
 cases hv
 have hk := (List.getElem?_eq_some_iff.1 ht).1
 obtain ⟨b, off, rfl, hb, hp, hx⟩ := h5 (by omega)
 refine ⟨b, off, rfl, hb, h3, h4, ?_, ?_, ?_, ?_⟩
 ·exact hx (k * 4) _ ((tok_get toks k 0 t ht (by omega)).trans rfl)
 ·rw [Nat.add_assoc]; exact hx (k * 4 + 1) _ ((tok_get toks k 1 t ht (by omega)).trans rfl)
 ·rw [Nat.add_assoc]; exact hx (k * 4 + 2) _ ((tok_get toks k 2 t ht (by omega)).trans rfl)
 ·rw [Nat.add_assoc]; exact hx (k * 4 + 3) _ ((tok_get toks k 3 t ht (by omega)).trans rfl)
abbrev partsC : Array Value := #[.string ⟨#[97]⟩, .string ⟨#[115, 117, 109]⟩, .string ⟨#[107, 116, 104]⟩, .string ⟨#[98, 121]⟩, .string ⟨#[109, 101, 97, 110]⟩, .string ⟨#[48]⟩, .string ⟨#[52, 48, 57, 55]⟩, .string ⟨#[53]⟩, .string ⟨#[34, 120, 34]⟩, .string ⟨#[43]⟩, .string ⟨#[47]⟩, .string ⟨#[40]⟩, .string ⟨#[41]⟩, .string ⟨#[123]⟩, .string ⟨#[125]⟩, .string ⟨#[44]⟩, .string ⟨#[46]⟩, .string ⟨#[64]⟩, .string ⟨#[61]⟩, .string ⟨#[33, 61]⟩, .string ⟨#[109, 105, 110, 40]⟩, .string ⟨#[107, 116, 104, 40, 50, 41]⟩]
def isStr8 : Value → Bool | .string p => decide (p.size ≤ 8) | _ => false
theorem parts_ok : ∀ k, k < 22 → (partsC[k]?.map isStr8).getD false = true := by decide +kernel
theorem parts_cell {W : World} {g ty : Nat} (h : Blk W g ty partsC) (k : Nat) (hk : k < 22) : ∃ p : ByteArray, W.cell? ⟨g, k, none⟩ = some (.string p) ∧ p.size ≤ 8 := by
 have h1 := parts_ok k hk
 have h2 : W.cell? ⟨g, k, none⟩ = partsC[k]? := by
  unfold Blk at h
  simp only [World.cell?, h]
  try rfl
 rw [h2]
 cases hq : partsC[k]? with
 | none => rw [hq] at h1; cases h1
 | some v =>
  rw [hq] at h1
  cases v <;> first | (exact ⟨_, rfl, by simpa [isStr8] using h1⟩) | (exact absurd h1 (by simp [isStr8]))
theorem swap_x (A B p : ByteArray) (n : Nat) (hA : A.size ≤ 2000) (hB : B.size ≤ 2000) (hp : p.size ≤ 8) (hn : A.size + B.size + 10 ≤ n) : ∃ x1 x2 x3 x4 : ByteArray, (∀ W : World, (Op.stringOp .add A ⟨#[32]⟩).run Tryz.prog W = .ok (.string x1) W) ∧ (∀ W : World, (Op.stringOp .add x1 p).run Tryz.prog W = .ok (.string x2) W) ∧ (∀ W : World, (Op.stringOp .add x2 ⟨#[32]⟩).run Tryz.prog W = .ok (.string x3) W) ∧ (∀ W : World, (Op.stringOp .add x3 B).run Tryz.prog W = .ok (.string x4) W) ∧ x4.size ≤ n := by
 have e : (⟨#[32]⟩ : ByteArray).size = 1 := rfl
 generalize (⟨#[32]⟩ : ByteArray) = C at e ⊢
 refine ⟨A ++ C, (A ++ C) ++ p, ((A ++ C) ++ p) ++ C, (((A ++ C) ++ p) ++ C) ++ B, fun W => run_string_add_sum (P := Tryz.prog) (w := W) _ _ (by omega), fun W => run_string_add_sum (P := Tryz.prog) (w := W) _ _ (by rw [ByteArray.size_append]; omega), fun W => run_string_add_sum (P := Tryz.prog) (w := W) _ _ (by rw [ByteArray.size_append, ByteArray.size_append]; omega), fun W => run_string_add_sum (P := Tryz.prog) (w := W) _ _ (by rw [ByteArray.size_append, ByteArray.size_append, ByteArray.size_append]; omega), ?_⟩
 rw [ByteArray.size_append, ByteArray.size_append, ByteArray.size_append, ByteArray.size_append]; omega
set_option maxHeartbeats 4000000 in
set_option maxRecDepth 100000 in
theorem swapped_any (s : ByteArray) (at' by' : Int) (w : World) (hs : s.size ≤ maxLen) (a1 : -9223372036854775808 ≤ at') (a2 : at' ≤ 9223372036854775807) (h1 : -9223372036854775808 ≤ by') (h2 : by' ≤ 9223372036854775807) :
  Calls Tryz.prog 14 #[.string s, .int .i64 at', .int .i64 by'] w (RetTx (2 * s.size + 20) w) := by
 obtain ⟨q0, q1⟩ := around_bd by' 22 (by omega)
 have HA := Box.mk (And.intro (And.intro a1 a2) (And.intro h1 h2))
 have HS := Box.mk hs
 clear a1 a2 h1 h2 hs
 go_enter Tryz.func14, Tryz.ntmps14
 go_wp2_with fail
 refine (rtokens_any s _ HS.out).mono ?_
 intro e w1 hr
 obtain ⟨hb, ⟨a, er, hne, rfl⟩ | ⟨hsz, A, c, toks, rfl, hq, hof, hlen, -, -⟩⟩ := retTk_lex hr
 ·have hne2 : (er != 0) = true := by simpa using hne
  have HB := Box.mk hb
  clear hb hr hne
  go_wp2_with fail
  go_ret
  exact ⟨_, rfl, by omega, HB.out⟩
 have HQ := Box.mk hq
 have HO := Box.mk hof
 have HB := Box.mk hb
 clear hq hof hb hr
 by_cases h0 : toks.length = 0
 ·obtain rfl : toks = [] := List.eq_nil_of_length_eq_zero h0
  clear h0
  simp only [List.length_nil]
  go_wp2_with fail
  go_ret
  exact ⟨_, rfl, by omega, HB.out⟩
 have hpos : ((toks.length : Int) == 0) = false := by simpa using h0
 have hpos2 : ¬ toks = [] := fun h => h0 (by rw [h]; rfl)
 obtain ⟨k0, k1⟩ := around_bd at' (toks.length : Int) (by omega)
 obtain ⟨k, HK⟩ : ∃ k : Nat, Box (around at' (toks.length : Int) = (k : Int)) := ⟨(around at' (toks.length : Int)).toNat, ⟨by omega⟩⟩
 rw [HK.out] at k0 k1
 have hk : k < toks.length := by omega
 obtain ⟨j, HJ⟩ : ∃ j : Nat, Box (around by' 22 = (j : Int)) := ⟨(around by' 22).toNat, ⟨by omega⟩⟩
 rw [HJ.out] at q0 q1
 have hj : j < 22 := by omega
 have HPB : Box (Blk (w1.alloc (.cells partsC 9)) w1.heap.size 9 partsC ∧ Below w.heap.size w (w1.alloc (.cells partsC 9)) ∧ SeqP (w1.alloc (.cells partsC 9)) (fun b _ => w.heap.size ≤ b) 4 (.slice A toks.length c) toks.length (toks.flatMap tokL)) := ⟨Blk.new _ _ _, bthen HB.out (bel1 _ _) (Nat.le_refl _), HQ.out.keep (Agree.of_below (bel1 _ _))⟩
 clear HQ HB
 go_upto_region 5 with (fail)
 clear hpos hpos2
 generalize hpg : w1.heap.size = pg at *
 generalize w1.alloc (.cells partsC 9) = W at HPB ⊢
 clear hpg
 obtain ⟨p, HPS⟩ : ∃ p : ByteArray, Box (W.cell? ⟨pg, j, none⟩ = some (.string p) ∧ p.size ≤ 8) := by
  obtain ⟨p, h1, h2⟩ := parts_cell HPB.out.1 j hj
  exact ⟨p, ⟨h1, h2⟩⟩
 obtain ⟨t, HT⟩ : ∃ t, Box (toks[k]? = some t ∧ t.off ≤ s.size) := ⟨toks[k], ⟨List.getElem?_eq_getElem hk, HO.out _ (List.getElem_mem hk)⟩⟩
 obtain ⟨b, off, rfl, hb, hlc, hcm, -, -, -, t3⟩ := toks_at HPB.out.2.2 HT.out.1
 go_wp2_with fail
 refine (around_any at' (toks.length : Int) _ HA.out.1.1 HA.out.1.2 (by omega) (by omega)).mono ?_
 rintro e w2 ⟨rfl, hw⟩
 subst hw
 rw [HK.out]
 have HT3 := Box.mk t3
 clear t3
 go_upto_if 38 with (fail)
 go_cut [12] (fun v wx => ∃ z : Nat, v = .int .i64 (z : Int) ∧ z ≤ s.size ∧ wx = W)
 case first =>
  by_cases hk1 : k + 1 < toks.length
  ·have hk2 : (k : Int) + 1 < (toks.length : Int) := by omega
   obtain ⟨t', HT'⟩ : ∃ t, Box (toks[k + 1]? = some t ∧ t.off ≤ s.size) := ⟨toks[k + 1], ⟨List.getElem?_eq_getElem hk1, HO.out _ (List.getElem_mem hk1)⟩⟩
   obtain ⟨b', off', hA, -, -, -, -, -, -, u3⟩ := toks_at HPB.out.2.2 HT'.out.1
   cases hA
   go_wp2_with fail
   go_meet
   exact ⟨t'.off, rfl, HT'.out.2, rfl⟩
  ·have hk2 : ¬ (k : Int) + 1 < (toks.length : Int) := by omega
   go_wp2_with fail
   go_meet
   exact ⟨s.size, rfl, Nat.le_refl _, rfl⟩
 case rest =>
  obtain ⟨z, rfl, hz, rfl⟩ := hcut
  rename World => W
  have t3 := HT3.out
  have ps := HPS.out.1
  have hps := HPS.out.2
  have htz := HT.out.2
  have htz2 : (t.off : Int) ≤ (s.size : Int) := by omega
  have hz2 : (z : Int) ≤ (s.size : Int) := by omega
  have hk2 : (k : Int) < (toks.length : Int) := by omega
  obtain ⟨x1, x2, x3, x4, y1, y2, y3, y4, hx⟩ := swap_x (s.extract 0 t.off) (s.extract z s.size) p (2 * s.size + 20) (by rw [ByteArray.size_extract]; omega) (by rw [ByteArray.size_extract]; omega) hps (by rw [ByteArray.size_extract, ByteArray.size_extract]; omega)
  have HX := Box.mk hx
  clear hx
  go_upto_region 9 with (fail)
  go_region_held3 (fun w' => w'.cell? ⟨b, off + k * 4 + 3, none⟩ = some (.int .i64 (t.off : Int)) ∧ w'.cell? ⟨pg, j, none⟩ = some (.string p)) (go_keep)
   (first | (go_at_call 18; refine (around_any by' 22 _ HA.out.2.1 HA.out.2.2 (by omega) (by omega)).mono ?_; rintro e w' ⟨rfl, rfl⟩; rw [HJ.out]))
  all_goals
   go_wp2_with fail
   go_ret
   exact ⟨_, rfl, HX.out, by first | exact HPB.out.2.1 | exact bdrew HPB.out.2.1 1 | exact bdrew HPB.out.2.1 _⟩
end
end Go.Proofs.YthoibeajhdhdhaaGreatDoor
