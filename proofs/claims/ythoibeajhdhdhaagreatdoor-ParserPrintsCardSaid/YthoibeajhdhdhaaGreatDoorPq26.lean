/- Contracts, packed: Mt Qm Jm. -/
import Derived.Test.YthoibeajhdhdhaaGreatDoorPq20
import Derived.Test.YthoibeajhdhdhaaGreatDoorPq21
import Derived.Laws.Concat
import Derived.ProofKit
import Derived.LaidMore
import Derived.LaidLaws
import Derived.OpenShut
import Derived.Stop.Joined
import Derived.HandedShaped
import Derived.Shelf.Vars
set_option linter.unusedVariables false
set_option linter.unusedSimpArgs false
namespace Go.Proofs.YthoibeajhdhdhaaGreatDoor
section
open Go.RowKit FracM

def itoaQ (n : Int) : ByteArray := ⟨(Lib.itoa n).toArray⟩
theorem bszQ (l : List UInt8) : (⟨l.toArray⟩ : ByteArray).size = l.length := by show l.toArray.size = _; simp
/-- the digits of u, none for 0 -/
def preQ (u : Nat) : List UInt8 := if u = 0 then [] else Lib.decDigits u
theorem preQ_step {u : Nat} (h : ¬ u = 0) : preQ u = preQ (u / 10) ++ [UInt8.ofNat (48 + u % 10)] := by
  unfold preQ
  rw [if_neg h]
  by_cases h10 : u < 10
  · rw [if_pos (by omega), Lib.decDigits, dif_pos h10, Nat.mod_eq_of_lt h10]; rfl
  · rw [if_neg (by omega)]
    conv => lhs; rw [Lib.decDigits]
    rw [dif_neg h10]
theorem preQ_pos {u : Nat} (h : ¬ u = 0) : preQ u = Lib.decDigits u := if_neg h
def bsQ (l : List UInt8) : ByteArray := ⟨l.toArray⟩
theorem bsQ_size (l : List UInt8) : (bsQ l).size = l.length := bszQ l
theorem bsQ_app (a b : List UInt8) : bsQ a ++ bsQ b = bsQ (a ++ b) := by
  unfold bsQ; apply ByteArray.ext; simp
abbrev tenQ : ByteArray := ⟨#[48, 49, 50, 51, 52, 53, 54, 55, 56, 57]⟩
theorem tenQ_at {d : Nat} (h : d < 10) : tenQ.extract d (d + 1) = bsQ [UInt8.ofNat (48 + d)] := by
  have : d = 0 ∨ d = 1 ∨ d = 2 ∨ d = 3 ∨ d = 4 ∨ d = 5 ∨ d = 6 ∨ d = 7 ∨ d = 8 ∨ d = 9 := by omega
  rcases this with rfl | rfl | rfl | rfl | rfl | rfl | rfl | rfl | rfl | rfl <;> decide
def DecRelQ (n : Int) (u v : Value) : Prop :=
  ∃ (l : List UInt8) (k : Int), u = .string (bsQ l) ∧ v = .int .i64 k ∧ -9223372036854775808 ≤ k ∧ k ≤ 9223372036854775807 ∧ preQ n.natAbs = preQ k.natAbs ++ l
theorem decQ_len (u : Nat) (h : u ≤ 9223372036854775808) : (preQ u).length ≤ 21 := by
  by_cases h0 : u = 0
  · subst h0; simp [preQ]
  · rw [preQ_pos h0]
    have h1 := Lib.itoa_length_le (-(u : Int)) (by omega) (by omega)
    rw [Lib.itoa_neg u (by omega)] at h1
    simp at h1; omega
set_option maxHeartbeats 400000 in
theorem decimalQ_any (n : Int) (w : World) (h1 : -9223372036854775808 ≤ n) (h2 : n ≤ 9223372036854775807) : Calls Tryz.prog 19 #[.int .i64 n] w fun e w' => e = .returned (.string (itoaQ n)) ∧ w' = w := by
  by_cases h0 : n = 0
  · subst h0
    go_enter Tryz.func19, Tryz.ntmps19
    go_wp2
    go_ret
    exact ⟨ret_str (by decide +kernel), rfl⟩
  · have h0b : (n == 0) = false := by simp [h0]
    have HD : Box (∀ l, preQ n.natAbs = preQ (0 : Int).natAbs ++ l → (if n < 0 then bsQ (45 :: l) else bsQ l) = itoaQ n) := ⟨fun l hl => by
      have e : preQ n.natAbs = Lib.decDigits n.natAbs := preQ_pos (by omega)
      rw [e] at hl
      simp [preQ] at hl
      unfold itoaQ Lib.itoa
      split
      · rw [← hl]; rfl
      · rw [show n.toNat = n.natAbs by omega, hl]; rfl⟩
    have HLen := Box.mk (decQ_len n.natAbs (by omega))
    go_enter Tryz.func19, Tryz.ntmps19
    go_wp2
    go_loop [4, 5] (fun u v => DecRelQ n u v) (fun _ v => (intOf v).natAbs)
    case atStart => exact ⟨[], n, rfl, rfl, h1, h2, by simp⟩
    case round =>
      obtain ⟨l, k, rfl, rfl, hk1, hk2, hp⟩ := hrel
      have HP := Box.mk hp; clear hp
      have hl : l.length ≤ 21 := by have := HLen.out; rw [HP.out] at this; simp at this; omega
      by_cases hk0 : k = 0
      · subst hk0
        have HE := Box.mk (HD.out l HP.out)
        by_cases hn : n < 0
        · rw [if_pos hn] at HE
          have a1 := fun W => run_string_add_sum (P := Tryz.prog) (w := W) ⟨#[45]⟩ (bsQ l) (by rw [bsQ_size]; show 1 + _ ≤ _; omega)
          go_wp2
          go_ret
          exact ⟨ret_str (by rw [← HE.out]; exact bsQ_app [45] l), rfl⟩
        · rw [if_neg hn] at HE
          go_wp2
          go_ret
          exact ⟨ret_str HE.out, rfl⟩
      · have HD2 : Box (preQ n.natAbs = preQ (k.tdiv 10).natAbs ++ (UInt8.ofNat (48 + k.natAbs % 10) :: l)) := ⟨by
          rw [HP.out, preQ_step (by omega), show (k.tdiv 10).natAbs = k.natAbs / 10 by rw [Int.natAbs_tdiv]; rfl]; simp⟩
        have hm : (k.tdiv 10).natAbs < k.natAbs := by rw [Int.natAbs_tdiv]; show k.natAbs / 10 < _; omega
        have hq1 : -9223372036854775808 ≤ k.tdiv 10 := by omega
        have hq2 : k.tdiv 10 ≤ 9223372036854775807 := by omega
        obtain ⟨q, hq⟩ : ∃ q, k.tdiv 10 = q := ⟨_, rfl⟩
        rw [hq] at HD2 hm hq1 hq2
        have hd : k.natAbs % 10 < 10 := by omega
        have hT := tenQ_at hd
        have hsg : k.tmod 10 = if k < 0 then -((k.natAbs % 10 : Nat) : Int) else ((k.natAbs % 10 : Nat) : Int) := by
          split
          · rename_i h
            rw [show k = -((k.natAbs : Nat) : Int) by omega, Int.neg_tmod]; simp [Int.tmod_eq_emod_of_nonneg]
          · rename_i h
            rw [Int.tmod_eq_emod_of_nonneg (by omega)]; omega
        generalize k.natAbs % 10 = d at *
        have hd2 : (d : Int) < 10 := by omega
        have hkb : (k == 0) = false := by simp [hk0]
        have hTT := Box.mk hT; have HM := Box.mk hm; have HQ := Box.mk hq
        clear hT hm
        have a1 := fun W => run_string_add_sum (P := Tryz.prog) (w := W) (tenQ.extract d (d + 1)) (bsQ l) (by rw [hTT.out, bsQ_size, bsQ_size]; show 1 + _ ≤ _; omega)
        by_cases hs : k < 0
        · rw [if_pos hs] at hsg
          by_cases hd0 : d = 0
          · subst hd0
            have a0 := fun W => run_string_add_sum (P := Tryz.prog) (w := W) (tenQ.extract 0 1) (bsQ l) (by rw [hTT.out, bsQ_size, bsQ_size]; show 1 + _ ≤ _; omega)
            go_wp2
            go_round
            case rel => exact ⟨UInt8.ofNat (48 + 0) :: l, q, by rw [show tenQ.extract 0 1 = _ from hTT.out, bsQ_app]; rfl, rfl, hq1, hq2, HD2.out⟩
            case measure => simpa [intOf] using HM.out
          · have hd3 : 0 < d := by omega
            go_wp2
            go_round
            case rel => exact ⟨UInt8.ofNat (48 + d) :: l, q, by rw [hTT.out, bsQ_app]; rfl, rfl, hq1, hq2, HD2.out⟩
            case measure => simpa [intOf] using HM.out
        · rw [if_neg hs] at hsg
          go_wp2
          go_round
          case rel => exact ⟨UInt8.ofNat (48 + d) :: l, q, by rw [hTT.out, bsQ_app]; rfl, rfl, hq1, hq2, HD2.out⟩
          case measure => simpa [intOf] using HM.out
end
section
open Go.RowKit FracM

def DxOk (w : World) (P : Nat → Nat → Prop) (x : Dx) : Prop := SeqP w P 2 x.lv x.dc.2.1.length (x.dc.2.1.flatMap labCells) ∧ x.dc.1.size ≤ maxLen ∧ I64 x.dc.2.2.1 ∧ I64 x.dc.2.2.2.1 ∧ I64 x.dc.2.2.2.2
def DecsAt (w : World) (P : Nat → Nat → Prop) (v : Value) (l : List Dx) : Prop := SeqP w P 12 v l.length (l.flatMap dcL) ∧ ∀ x ∈ l, DxOk w P x
theorem DecsAt.keep {w w' : World} {P : Nat → Nat → Prop} {v : Value} {l : List Dx} (h : DecsAt w P v l) (f : Agree P w w') : DecsAt w' P v l := ⟨h.1.keep f, fun x hx => ⟨(h.2 x hx).1.keep f, (h.2 x hx).2⟩⟩
theorem DecsAt.mono {w : World} {P Q : Nat → Nat → Prop} {v : Value} {l : List Dx} (h : DecsAt w P v l) (hq : ∀ b e, b < w.heap.size → P b e → Q b e) : DecsAt w Q v l := ⟨h.1.mono hq, fun x hx => ⟨(h.2 x hx).1.mono hq, (h.2 x hx).2⟩⟩
abbrev At12 (w : World) (b o : Nat) (x : Dx) : Prop := w.cell? ⟨b, o, none⟩ = some (.string x.dc.1) ∧ w.cell? ⟨b, o + 1, none⟩ = some x.lv ∧ w.cell? ⟨b, o + 2, none⟩ = some (.int .i64 x.dc.2.2.1) ∧ w.cell? ⟨b, o + 3, none⟩ = some (.int .i64 x.dc.2.2.2.1) ∧ w.cell? ⟨b, o + 4, none⟩ = some (.int .i64 x.dc.2.2.2.2) ∧ w.cell? ⟨b, o + 5, none⟩ = some (.int .i64 (x.o 0)) ∧ w.cell? ⟨b, o + 6, none⟩ = some (.int .i64 (x.o 1)) ∧ w.cell? ⟨b, o + 7, none⟩ = some (.int .i64 (x.o 2)) ∧ w.cell? ⟨b, o + 8, none⟩ = some (.int .i64 (x.o 3)) ∧ w.cell? ⟨b, o + 9, none⟩ = some (.int .i64 (x.o 4)) ∧ w.cell? ⟨b, o + 10, none⟩ = some (.int .i64 (x.o 5)) ∧ w.cell? ⟨b, o + 11, none⟩ = some (.int .i64 (x.o 6))
theorem DecsAt.at_ {w : World} {P : Nat → Nat → Prop} {A : Option Addr} {n c : Nat} {l : List Dx} (h : DecsAt w P (.slice A n c) l) (i : Nat) (x : Dx) (hi : l[i]? = some x) :
    ∃ b off, A = some ⟨b, off, none⟩ ∧ b < w.heap.size ∧ (∃ z, P b z) ∧ At12 w b (off + i * 12) x := by
  have hlt : i < l.length := (List.getElem?_eq_some_iff.1 hi).1
  obtain ⟨⟨_, A', c', hv, _, _, h2⟩, _⟩ := h
  cases hv
  obtain ⟨b, off, rfl, hb, hp, hx⟩ := h2 (by omega)
  refine ⟨b, off, rfl, hb, ⟨_, hp⟩, ?_⟩
  have g := fun j (hj : j < 12) => flat_get dcL 12 (fun _ => rfl) l i j _ hi hj
  refine ⟨?_, ?_, ?_, ?_, ?_, ?_, ?_, ?_, ?_, ?_, ?_, ?_⟩
  · exact hx _ _ ((g 0 (by omega)).trans rfl)
  · rw [Nat.add_assoc]; exact hx _ _ ((g 1 (by omega)).trans rfl)
  · rw [Nat.add_assoc]; exact hx _ _ ((g 2 (by omega)).trans rfl)
  · rw [Nat.add_assoc]; exact hx _ _ ((g 3 (by omega)).trans rfl)
  · rw [Nat.add_assoc]; exact hx _ _ ((g 4 (by omega)).trans rfl)
  · rw [Nat.add_assoc]; exact hx _ _ ((g 5 (by omega)).trans rfl)
  · rw [Nat.add_assoc]; exact hx _ _ ((g 6 (by omega)).trans rfl)
  · rw [Nat.add_assoc]; exact hx _ _ ((g 7 (by omega)).trans rfl)
  · rw [Nat.add_assoc]; exact hx _ _ ((g 8 (by omega)).trans rfl)
  · rw [Nat.add_assoc]; exact hx _ _ ((g 9 (by omega)).trans rfl)
  · rw [Nat.add_assoc]; exact hx _ _ ((g 10 (by omega)).trans rfl)
  · rw [Nat.add_assoc]; exact hx _ _ ((g 11 (by omega)).trans rfl)
theorem DecsAt.len {w : World} {P : Nat → Nat → Prop} {A : Option Addr} {n c : Nat} {l : List Dx} (h : DecsAt w P (.slice A n c) l) : n = l.length ∧ n ≤ 9223372036854775807 := by
  obtain ⟨⟨_, _, _, hv, h1, h2, _⟩, _⟩ := h
  cases hv
  unfold maxLen at h2
  exact ⟨rfl, by omega⟩
end
section
open Go.ChangeShapes Go.WideShapes Go.ChangeAt Go.RowKit

theorem own : ownKnob Tryz.prog.godebug = none := by kernel_rfl
theorem laidOut : laidOutB Tryz.prog = true := by kernel_rfl
/-- the wrap, with the listed variables and the world's shape both handed on -/
theorem handed_both {H : Type} {enc : TypeId × Value → H} {a : Assume} {C : Checked} {os : Os} {f : FuncId} {fn : Func} {s : ChangeSpec} {conds : List PathCond} {apart fresh handsOn again : Bool} {X : World → Array Value → Prop}
    (hX : ∀ (w w' : World) (args : Array Value), w.heap = w'.heap → X w args → X w' args)
    (own : ownKnob C.prog.godebug = none) (started : os.Started) (noInit : C.prog.inits.idxOf? f = none) (hfn : C.prog.funcs[f]? = some fn)
    (witness : ∃ (w : World) (tape : Tape) (i : Input), w.os = os ∧ (w.forCall tape i).Shaped C.prog ∧ i.vars = [] ∧ Input.okWide C.prog (w.forCall tape i) .any w.heap.size f i ∧
      ((s.pre enc C.prog fn conds apart (w.forCall tape i).memory i.args ∧ X (w.forCall tape i).memory i.args) ∧ sizedMet enc C.prog fn (OpenSpec.ofChange s) apart (w.forCall tape i).memory i.args) ∧ a.holds C.prog (lone (Frame.enter C.prog f i.args .normal) [] (w.forCall tape i)))
    (contract : ∀ (W : World) (base : Nat) (args : Array Value) (ds gs : List (DataW H)) (before : List MemPlace),
      (∀ (j : Nat) t v, fn.params[j]? = some t → args[j]? = some v → Value.okWide C.prog W .any base t v) →
      DataW.Whole enc C.prog fn.params.toList s.vars apart W args.toList ds gs before →
      X W args → W.ShapedOpen C.prog →
      Calls C.prog f args W fun e W' => ∃ v, e = .returned v ∧ s.post enc C.prog fn apart fresh handsOn again W args v W') :
    ReturnsInHanded a C os f .any (fun w args => (s.pre enc C.prog fn conds apart w args ∧ X w args) ∧ sizedMet enc C.prog fn (OpenSpec.ofChange s) apart w args) (s.post enc C.prog fn apart fresh handsOn again) := by
  refine returnsInHanded_of_calls own started noInit witness ?_
  intro w tape i _ hsh _ hok hpre hholds
  obtain ⟨_, _, _, fn', hfn', _, _, _, _, hval⟩ := hok
  have e : fn' = fn := Option.some.inj (hfn'.symm.trans hfn)
  subst e
  obtain ⟨⟨⟨ds, gs, before, hw, hc⟩, hx⟩, hz⟩ := hpre
  have hw' := DataW.Whole.of_heap (w' := w.forCall tape i) (by rfl) hw
  refine (contract (w.forCall tape i) w.heap.size i.args ds gs before hval hw' (hX _ _ _ (by rfl) hx) hsh).mono fun e W' ⟨v, he, hp⟩ => ?_
  subst he
  exact ChangeSpec.post_blind hp


def laid5 : List (String × DataW Unit) := [("math/bits.deBruijn32tab", Rows.laid_math_bits_deBruijn32tab), ("math/bits.deBruijn64tab", Rows.laid_math_bits_deBruijn64tab), ("internal/strconv.uint64pow10", Rows.laid_internal_strconv_uint64pow10), ("intervalmon/parser.groupWords", Rows.laid_intervalmon_parser_groupWords), ("intervalmon/parser.functionWords", Rows.laid_intervalmon_parser_functionWords), ("intervalmon/parser.matchSymbols", Rows.laid_intervalmon_parser_matchSymbols), ("intervalmon/parser.operators", Rows.laid_intervalmon_parser_operators)]
theorem door_met (os : Os) (args : Array Value) : laidMetH Tryz.prog laid5 ((World.doorLaid Tryz.prog 400 os).forCall (fun _ _ => 0) ⟨#[], args, []⟩).memory :=
  laidMetH_of_parts3 (fuel := 8) (laidMet_of_run' 8 (by kernel_rfl) (by kernel_rfl)) (by kernel_rfl) (by kernel_rfl)
theorem gGrp : Tryz.prog.globalNamed "intervalmon/parser.groupWords" = some 1 := by kernel_rfl
theorem tGrp : (Tryz.prog.globals[1]?).map (·.type) = some 127 := by kernel_rfl
theorem gFun : Tryz.prog.globalNamed "intervalmon/parser.functionWords" = some 3 := by kernel_rfl
theorem tFun : (Tryz.prog.globals[3]?).map (·.type) = some 132 := by kernel_rfl
theorem gMat : Tryz.prog.globalNamed "intervalmon/parser.matchSymbols" = some 2 := by kernel_rfl
theorem tMat : (Tryz.prog.globals[2]?).map (·.type) = some 131 := by kernel_rfl
theorem gOpr : Tryz.prog.globalNamed "intervalmon/parser.operators" = some 0 := by kernel_rfl
theorem tOpr : (Tryz.prog.globals[0]?).map (·.type) = some 119 := by kernel_rfl
theorem gTab : Tryz.prog.globalNamed "internal/strconv.uint64pow10" = some 5 := by kernel_rfl
theorem tTab : (Tryz.prog.globals[5]?).map (·.type) = some 160 := by kernel_rfl
theorem cU64 : Tryz.prog.cellsOf 144 = 1 := by kernel_rfl
theorem cTab : Tryz.prog.cellsOf 160 = 20 := by kernel_rfl
theorem cStr : Tryz.prog.cellsOf 9 = 1 := by kernel_rfl
theorem var_cells {n : String} {g : Nat} {w : World} {cs : Array Value} (hg : Tryz.prog.globalNamed n = some g) (h : w.var? Tryz.prog n = some cs) : g < w.heap.size ∧ ∀ (k : Nat) (v : Value), cs[k]? = some v → w.cell? ⟨g, k, none⟩ = some v := by
  unfold World.var? at h
  rw [hg] at h
  simp only [Option.bind_some] at h
  have hlt : g < w.heap.size := by
    rcases Nat.lt_or_ge g w.heap.size with h' | h'
    · exact h'
    · rw [Array.getElem?_eq_none h'] at h; cases h
  refine ⟨hlt, fun k v hk => ?_⟩
  unfold World.cell?
  revert h
  cases hh : w.heap[g]? with
  | none => intro h; cases h
  | some o =>
    cases o <;> intro h <;> simp_all
theorem str_trod {H : Type} {enc : TypeId × Value → H} {P : Program} {w : World} {base : Nat} {sp : Nat → Bool} {held : Bool} {fuel : Nat} {t : TypeId} {cs : List Value} {d : DataW H} {p : List MemPlace} {l : List UInt8}
    (ht : P.underlying t = some .string) (h : DataW.trod enc P w base sp held fuel t cs = some (d, p)) (hd : d = .lit (.string l)) : cs = [.string ⟨l.toArray⟩] := by
  obtain ⟨s, hc, hx, _⟩ := DataW.trod_string ht h
  have h1 := congrArg Prod.fst hx
  simp only at h1
  rw [hd] at h1
  simp only [DataW.lit.injEq, Lit.string.injEq] at h1
  rw [hc, h1]
/-- the strings of an array that was laid -/
theorem strs_of {W : World} {n : Nat} {t : TypeId} {f : Nat} {cs : Array Value} {ls : List (List UInt8)} {p : List MemPlace} {enc : TypeId × Value → Unit} {base : Nat} {sp : Nat → Bool} {held : Bool} (hu : Tryz.prog.underlying t = some (.array n 9)) (hl : ls.length = n)
    (hd : DataW.trod enc Tryz.prog W base sp held f t cs.toList = some (.agg (ls.map fun l => .lit (.string l)), p)) : ∀ (i : Nat) (l : List UInt8), ls[i]? = some l → cs[i]? = some (Value.string ⟨l.toArray⟩) := by
  obtain ⟨xs, m1, rfl, hx1, hlen, hn3, hel⟩ := DataW.trod_array hu hd
  have hx := congrArg Prod.fst hx1
  simp only [DataW.agg.injEq] at hx
  intro i l hi
  obtain ⟨hlt, rfl⟩ := List.getElem?_eq_some_iff.1 hi
  have he := hel i (by omega)
  rw [cStr, Nat.mul_one] at he
  have hxl : i < xs.length := by omega
  rw [List.getElem?_eq_getElem hxl] at he
  have hxi : xs[i].1 = .lit (.string ls[i]) := by
    have h2 : (xs.map (·.1))[i]? = (ls.map fun l => (DataW.lit (.string l) : DataW Unit))[i]? := by rw [← hx]
    rw [List.getElem?_map, List.getElem?_map, List.getElem?_eq_getElem hxl, List.getElem?_eq_getElem hlt] at h2
    simpa using h2
  have hc := str_trod (l := ls[i]) Tryz.underlying9 (d := xs[i].1) (p := xs[i].2) he hxi
  have h0 : ((cs.toList.drop i).take 1)[0]? = some (.string ⟨ls[i].toArray⟩) := by rw [hc]; rfl
  rw [List.getElem?_take, if_pos (by omega), List.getElem?_drop, Nat.add_zero] at h0
  simpa using h0
theorem int_trod {H : Type} {enc : TypeId × Value → H} {P : Program} {w : World} {base : Nat} {sp : Nat → Bool} {held : Bool} {fuel : Nat} {t : TypeId} {k : IntKind} {cs : List Value} {d : DataW H} {p : List MemPlace} {n : Int}
    (ht : P.underlying t = some (.int k)) (h : DataW.trod enc P w base sp held fuel t cs = some (d, p)) (hd : d = .lit (.int k n)) : cs = [.int k n] := by
  cases fuel with
  | zero => simp [DataW.trod] at h
  | succ fuel =>
    rcases cs with _ | ⟨c, _ | ⟨c', r⟩⟩
    · simp [DataW.trod, ht] at h
    · cases c <;> simp [DataW.trod, ht] at h
      rename_i k' m
      obtain ⟨⟨rfl, _⟩, rfl, _⟩ := h
      simpa using hd
    · simp [DataW.trod, ht] at h
theorem lenTab : Lib.pow10Tab.length = 20 := by decide

theorem lib_of_laid {W : World} (h : laidMetH Tryz.prog laid5 W) : LibP W := by
  rw [MakeChecks.laidMetH_plain _ _ _ (by kernel_rfl)] at h
  obtain ⟨ps, ⟨g0, t0, cs0, f0, p0, q0, hg0, ht0, hv0, hd0, ⟨g1, t1, cs1, f1, p1, q1, hg1, ht1, hv1, hd1, ⟨g2, t2, cs2, f2, p2, q2, hg2, ht2, hv2, hd2, ⟨g3, t3, cs3, f3, p3, q3, hg3, ht3, hv3, hd3, ⟨g4, t4, cs4, f4, p4, q4, hg4, ht4, hv4, hd4, ⟨g5, t5, cs5, f5, p5, q5, hg5, ht5, hv5, hd5, ⟨g6, t6, cs6, f6, p6, q6, hg6, ht6, hv6, hd6, _, _⟩, _⟩, _⟩, _⟩, _⟩, _⟩, _⟩, _, _⟩ := h
  obtain rfl := Option.some.inj (gGrp.symm.trans hg3)
  obtain rfl := Option.some.inj (tGrp.symm.trans ht3)
  obtain rfl := Option.some.inj (gFun.symm.trans hg4)
  obtain rfl := Option.some.inj (tFun.symm.trans ht4)
  obtain rfl := Option.some.inj (gMat.symm.trans hg5)
  obtain rfl := Option.some.inj (tMat.symm.trans ht5)
  obtain rfl := Option.some.inj (gOpr.symm.trans hg6)
  obtain rfl := Option.some.inj (tOpr.symm.trans ht6)
  obtain rfl := Option.some.inj (gTab.symm.trans hg2)
  obtain rfl := Option.some.inj (tTab.symm.trans ht2)
  refine ⟨?_, ?_, ?_, ?_, ?_⟩
  · obtain ⟨z, k⟩ := var_cells gGrp hv3
    have s := strs_of (ls := groupsT) Tryz.underlying127 rfl hd3
    exact ⟨z, fun i x hx => k i _ (s i x hx)⟩
  · obtain ⟨z, k⟩ := var_cells gFun hv4
    have s := strs_of (ls := funcsT) Tryz.underlying132 rfl hd4
    exact ⟨z, fun i x hx => k i _ (s i x hx)⟩
  · obtain ⟨z, k⟩ := var_cells gMat hv5
    have s := strs_of (ls := matchT) Tryz.underlying131 rfl hd5
    exact ⟨z, fun i x hx => k i _ (s i x hx)⟩
  · obtain ⟨z, k⟩ := var_cells gOpr hv6
    have s := strs_of (ls := opersT) Tryz.underlying119 rfl hd6
    exact ⟨z, fun i x hx => k i _ (s i x hx)⟩
  · unfold Lib.TabIs
    rw [hv2]
    congr 1
    obtain ⟨xs, m1, rfl, hx1, hlen, hn3, hel⟩ := DataW.trod_array Tryz.underlying160 hd2
    rw [cTab] at hlen
    have hx := congrArg Prod.fst hx1
    simp only [Rows.laid_internal_strconv_uint64pow10, DataW.agg.injEq] at hx
    apply Array.toList_inj.1
    apply List.ext_getElem?
    intro i
    by_cases hi : i < 20
    · have he := hel i hi
      rw [cU64, Nat.mul_one] at he
      have hxi : (xs.map (·.1))[i]? = (Lib.pow10Tab.map fun z => (DataW.lit (.int .u64 z) : DataW Unit))[i]? := by rw [← hx]; rfl
      have hlt : i < xs.length := by omega
      rw [List.getElem?_eq_getElem hlt] at he
      have hlp : i < Lib.pow10Tab.length := by rw [lenTab]; exact hi
      rw [List.getElem?_map, List.getElem?_map, List.getElem?_eq_getElem hlt, List.getElem?_eq_getElem hlp] at hxi
      simp only [Option.map_some, Option.some.injEq] at hxi
      have hc := int_trod (n := Lib.pow10Tab[i]) Tryz.underlying144 (d := xs[i].1) (p := xs[i].2) he hxi
      have h0 : ((cs2.toList.drop i).take 1)[0]? = some (.int .u64 Lib.pow10Tab[i]) := by rw [hc]; rfl
      rw [List.getElem?_take, if_pos (by omega), List.getElem?_drop, Nat.add_zero] at h0
      rw [h0]
      simp [List.getElem?_map, List.getElem?_eq_getElem hlp]
    · rw [List.getElem?_eq_none (by omega), List.getElem?_eq_none (by simp [lenTab]; omega)]
end
end Go.Proofs.YthoibeajhdhdhaaGreatDoor
