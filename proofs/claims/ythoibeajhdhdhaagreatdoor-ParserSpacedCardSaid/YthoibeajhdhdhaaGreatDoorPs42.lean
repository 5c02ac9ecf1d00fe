/- Contracts, packed: Jk Jm. -/
import Derived.Test.YthoibeajhdhdhaaGreatDoorPs19
import Derived.Test.YthoibeajhdhdhaaGreatDoorPs28
import Derived.ProofKit
import Derived.LaidMore
import Derived.LaidLaws
import Derived.OpenShut
import Derived.Stop.Joined
import Derived.HandedShaped
import Derived.Shelf.Vars
set_option linter.unusedVariables false
set_option linter.unusedSimpArgs false
namespace Go.Proofs.YthoibeajhdhdhaaGreatDoor
section
open Go.RowKit FracM
def ns6 : List ByteArray := [⟨#[99, 112, 117]⟩, ⟨#[109, 101, 109]⟩, ⟨#[97]⟩, ⟨#[108, 97, 115, 116]⟩, ⟨#[98, 121]⟩, ⟨#[120, 95, 49]⟩]
theorem ns6_ok : NamesOk ns6 := by unfold NamesOk; decide +kernel
set_option maxHeartbeats 4000000 in
set_option maxRecDepth 100000 in
theorem expr0_any (lv : Value) (l : List Int) (w : World) (h1 : IntsP w lv l) :
  Calls Tryz.prog 10 #[lv] w (RetT2 ns6 4096 w) := by
 obtain ⟨A1, c1, rfl, hlen⟩ := h1.1.form
 have HI0 := Box.mk h1
 clear h1
 go_enter Tryz.func10, Tryz.ntmps10
 have HP : Box (Blk ((w.alloc (.cells zeroC 29)).alloc (.cells #[.string ⟨#[99, 112, 117]⟩, .string ⟨#[109, 101, 109]⟩, .string ⟨#[97]⟩, .string ⟨#[108, 97, 115, 116]⟩, .string ⟨#[98, 121]⟩, .string ⟨#[120, 95, 49]⟩] 9)) w.heap.size 29 zeroC ∧ Below w.heap.size w ((w.alloc (.cells zeroC 29)).alloc (.cells #[.string ⟨#[99, 112, 117]⟩, .string ⟨#[109, 101, 109]⟩, .string ⟨#[97]⟩, .string ⟨#[108, 97, 115, 116]⟩, .string ⟨#[98, 121]⟩, .string ⟨#[120, 95, 49]⟩] 9))) := ⟨(Blk.new _ _ _).alloc _, bel2 _ _ _⟩
 have HI : Box (IntsP ((w.alloc (.cells zeroC 29)).alloc (.cells #[.string ⟨#[99, 112, 117]⟩, .string ⟨#[109, 101, 109]⟩, .string ⟨#[97]⟩, .string ⟨#[108, 97, 115, 116]⟩, .string ⟨#[98, 121]⟩, .string ⟨#[120, 95, 49]⟩] 9)) (.slice A1 l.length c1) l) := ⟨IntsP.belo HI0.out (bel2 _ _ _)⟩
 have HS : Box (StrsL ((w.alloc (.cells zeroC 29)).alloc (.cells #[.string ⟨#[99, 112, 117]⟩, .string ⟨#[109, 101, 109]⟩, .string ⟨#[97]⟩, .string ⟨#[108, 97, 115, 116]⟩, .string ⟨#[98, 121]⟩, .string ⟨#[120, 95, 49]⟩] 9)) (.slice (some ⟨w.heap.size + 1, 0, none⟩) 6 6) ns6) := ⟨SeqP.of_blk (n := 6) (size := 1) (Blk.newAt _ _ (by simp)) rfl (by omega) (by simp)⟩
 go_wp2_with fail
 (with_reducible refine (make_any (.slice A1 l.length c1) (.slice (some ⟨w.heap.size + 1, 0, none⟩) 6 6) l ns6 4096 _ HI.out HS.out ns6_ok (by decide) (by decide) (by omega) (by omega)).mono ?_)
 rintro e w2 ⟨t, s, rfl, ht8, hgd8, hd8, hn8, ho8⟩
 obtain ⟨d, ks⟩ := t
 obtain ⟨mv, bv, kv⟩ := s
 obtain ⟨A1, n1, rfl, -⟩ := ht8.form.1
 obtain ⟨A2, n2, rfl, -⟩ := ht8.form.2.1
 obtain ⟨A3, n3, rfl, -⟩ := ht8.form.2.2
 simp only [Tree.d]
 have HR := Box.mk (HP.out.1.below ho8)
 have HT := Box.mk (ht8.lower (B' := w.heap.size + 1) (by simp))
 have HO := Box.mk (HP.out.2.trans (ho8.mono HP.out.2.size))
 have HD := Box.mk (And.intro hgd8 (And.intro hd8 hn8))
 clear ht8 hgd8 hd8 hn8 ho8 HP
 obtain ⟨z0, z1, z2, z3, z4, z5, z6, z7, z8, z9, z10⟩ := blk11 HR.out
 simp only [Nat.zero_add] at z1 z2 z3 z4 z5 z6 z7 z8 z9 z10
 have zf := HR.out.frozen
 go_wp2_with fail
 have HF : Box (Blk (put11 w2 w.heap.size (.int .i64 d.kind) (.int .i64 d.fn) (.int .i64 d.win) (.int .i64 d.off) (.int .i64 d.k) (.int .i64 d.num) (.int .i64 d.den) (.string d.name) (.slice A1 d.ms.length n1) (.slice A2 d.bys.length n2) (.slice A3 ks.length n3)) w.heap.size 29 (ndC d (.slice A1 d.ms.length n1) (.slice A2 d.bys.length n2) (.slice A3 ks.length n3))) := ⟨put11_blk HR.out⟩
 have HA : Box (Below w.heap.size w (put11 w2 w.heap.size (.int .i64 d.kind) (.int .i64 d.fn) (.int .i64 d.win) (.int .i64 d.off) (.int .i64 d.k) (.int .i64 d.num) (.int .i64 d.den) (.string d.name) (.slice A1 d.ms.length n1) (.slice A2 d.bys.length n2) (.slice A3 ks.length n3)) ∧ TreeF (put11 w2 w.heap.size (.int .i64 d.kind) (.int .i64 d.fn) (.int .i64 d.win) (.int .i64 d.off) (.int .i64 d.k) (.int .i64 d.num) (.int .i64 d.den) (.string d.name) (.slice A1 d.ms.length n1) (.slice A2 d.bys.length n2) (.slice A3 ks.length n3)) (w.heap.size + 1) (.node d ks) (.slice A1 d.ms.length n1, .slice A2 d.bys.length n2, .slice A3 ks.length n3)) := ⟨HO.out.trans (put11_below (Nat.le_refl _) ..), HT.out.far (put11_only ..) (by omega)⟩
 show bodyPost _ _ _ _ _ (put11 w2 w.heap.size (.int .i64 d.kind) (.int .i64 d.fn) (.int .i64 d.win) (.int .i64 d.off) (.int .i64 d.k) (.int .i64 d.num) (.int .i64 d.den) (.string d.name) (.slice A1 d.ms.length n1) (.slice A2 d.bys.length n2) (.slice A3 ks.length n3))
 generalize (put11 w2 w.heap.size (.int .i64 d.kind) (.int .i64 d.fn) (.int .i64 d.win) (.int .i64 d.off) (.int .i64 d.k) (.int .i64 d.num) (.int .i64 d.den) (.string d.name) (.slice A1 d.ms.length n1) (.slice A2 d.bys.length n2) (.slice A3 ks.length n3)) = WF at HF HA ⊢
 clear HR HT HO z0 z1 z2 z3 z4 z5 z6 z7 z8 z9 z10 zf
 obtain ⟨e0, e1, e2, e3, e4, e5, e6, e7, e8, e9, e10⟩ := blk11 HF.out
 simp only [Nat.zero_add] at e1 e2 e3 e4 e5 e6 e7 e8 e9 e10
 have ef := HF.out.frozen
 refine bodyPost_ret (v := .agg (ndC d (.slice A1 d.ms.length n1) (.slice A2 d.bys.length n2) (.slice A3 ks.length n3))) (by simp [results, Tryz.results10, go_sem, e0, e1, e2, e3, e4, e5, e6, e7, e8, e9, e10, ef]) rfl ?_
 obtain ⟨y1, y2, y3⟩ := HD.out
 exact ⟨.node d ks, (.slice A1 d.ms.length n1, .slice A2 d.bys.length n2, .slice A3 ks.length n3), rfl, HA.out.2.lower (by omega), y1, y2, y3, HA.out.1⟩
end
section
open Go.ChangeShapes Go.WideShapes Go.ChangeAt Go.RowKit
theorem own : ownKnob Tryz.prog.godebug = none := by kernel_rfl
theorem laidOut : laidOutB Tryz.prog = true := by kernel_rfl
/-- the wrap, with the listed variables and the world's shape both handed on -/
theorem handed_both {H : Type} {enc : TypeId × Value → H} {a : Assume} {C : Checked} {os : Os} {f : FuncId} {fn : Func} {s : ChangeSpec} {conds : List PathCond} {apart fresh handsOn again : Bool} {X : World → Array Value → Prop}
  (hX : ∀ (w w' : World) (args : Array Value), w.heap = w'.heap → X w args → X w' args)
  (own : ownKnob C.prog.godebug = none) (started : os.Started) (noInit : C.prog.inits.idxOf? f = none) (hfn : C.prog.funcs[f]? = some fn)
  (witness : ∃ (w : World) (tape : Tape) (i : Input), w.os = os ∧ (w.forCall tape i).Shaped C.prog ∧ i.vars = [] ∧ Input.okWide C.prog (w.forCall tape i) .any w.heap.size f i ∧
   ((s.pre enc C.prog fn conds apart (w.forCall tape i).memory i.args ∧ X (w.forCall tape i).memory i.args) ∧ sizedMet enc C.prog fn (OpenSpec.ofChange s) apart (w.forCall tape i).memory i.args) ∧ a.holds C.prog (lone (Frame.enter C.prog f i.args .normal) [] (w.forCall tape i)))
  (contract : ∀ (W : World) (base : Nat) (args : Array Value) (ds gs : List (DataW H)) (before : List MemPlace),
   (∀ (j : Nat) t v, fn.params[j]? = some t → args[j]? = some v → Value.okWide C.prog W .any base t v) →
   DataW.Whole enc C.prog fn.params.toList s.vars apart W args.toList ds gs before →
   X W args → W.ShapedOpen C.prog →
   Calls C.prog f args W fun e W' => ∃ v, e = .returned v ∧ s.post enc C.prog fn apart fresh handsOn again W args v W') :
  ReturnsInHanded a C os f .any (fun w args => (s.pre enc C.prog fn conds apart w args ∧ X w args) ∧ sizedMet enc C.prog fn (OpenSpec.ofChange s) apart w args) (s.post enc C.prog fn apart fresh handsOn again) := by
 refine returnsInHanded_of_calls own started noInit witness ?_
 intro w tape i _ hsh _ hok hpre hholds
 obtain ⟨_, _, _, fn', hfn', _, _, _, _, hval⟩ := hok
 have e : fn' = fn := Option.some.inj (hfn'.symm.trans hfn)
 subst e
 obtain ⟨⟨⟨ds, gs, before, hw, hc⟩, hx⟩, hz⟩ := hpre
 have hw' := DataW.Whole.of_heap (w' := w.forCall tape i) (by rfl) hw
 refine (contract (w.forCall tape i) w.heap.size i.args ds gs before hval hw' (hX _ _ _ (by rfl) hx) hsh).mono fun e W' ⟨v, he, hp⟩ => ?_
 subst he
 exact ChangeSpec.post_blind hp
def laid5 : List (String × DataW Unit) := [("math/bits.deBruijn32tab", Rows.laid_math_bits_deBruijn32tab), ("math/bits.deBruijn64tab", Rows.laid_math_bits_deBruijn64tab), ("internal/strconv.uint64pow10", Rows.laid_internal_strconv_uint64pow10), ("intervalmon/parser.groupWords", Rows.laid_intervalmon_parser_groupWords), ("intervalmon/parser.functionWords", Rows.laid_intervalmon_parser_functionWords), ("intervalmon/parser.matchSymbols", Rows.laid_intervalmon_parser_matchSymbols), ("intervalmon/parser.operators", Rows.laid_intervalmon_parser_operators)]
theorem door_met (os : Os) (args : Array Value) : laidMetH Tryz.prog laid5 ((World.doorLaid Tryz.prog 400 os).forCall (fun _ _ => 0) ⟨#[], args, []⟩).memory :=
 laidMetH_of_parts3 (fuel := 8) (laidMet_of_run' 8 (by kernel_rfl) (by kernel_rfl)) (by kernel_rfl) (by kernel_rfl)
theorem gGrp : Tryz.prog.globalNamed "intervalmon/parser.groupWords" = some 1 := by kernel_rfl
theorem tGrp : (Tryz.prog.globals[1]?).map (·.type) = some 127 := by kernel_rfl
theorem gFun : Tryz.prog.globalNamed "intervalmon/parser.functionWords" = some 3 := by kernel_rfl
theorem tFun : (Tryz.prog.globals[3]?).map (·.type) = some 132 := by kernel_rfl
theorem gMat : Tryz.prog.globalNamed "intervalmon/parser.matchSymbols" = some 2 := by kernel_rfl
theorem tMat : (Tryz.prog.globals[2]?).map (·.type) = some 131 := by kernel_rfl
theorem gOpr : Tryz.prog.globalNamed "intervalmon/parser.operators" = some 0 := by kernel_rfl
theorem tOpr : (Tryz.prog.globals[0]?).map (·.type) = some 119 := by kernel_rfl
theorem gTab : Tryz.prog.globalNamed "internal/strconv.uint64pow10" = some 5 := by kernel_rfl
theorem tTab : (Tryz.prog.globals[5]?).map (·.type) = some 160 := by kernel_rfl
theorem cU64 : Tryz.prog.cellsOf 144 = 1 := by kernel_rfl
theorem cTab : Tryz.prog.cellsOf 160 = 20 := by kernel_rfl
theorem cStr : Tryz.prog.cellsOf 9 = 1 := by kernel_rfl
theorem var_cells {n : String} {g : Nat} {w : World} {cs : Array Value} (hg : Tryz.prog.globalNamed n = some g) (h : w.var? Tryz.prog n = some cs) : g < w.heap.size ∧ ∀ (k : Nat) (v : Value), cs[k]? = some v → w.cell? ⟨g, k, none⟩ = some v := by
 unfold World.var? at h
 rw [hg] at h
 simp only [Option.bind_some] at h
 have hlt : g < w.heap.size := by
  rcases Nat.lt_or_ge g w.heap.size with h' | h'
  ·exact h'
  ·rw [Array.getElem?_eq_none h'] at h; cases h
 refine ⟨hlt, fun k v hk => ?_⟩
 unfold World.cell?
 revert h
 cases hh : w.heap[g]? with
 | none => intro h; cases h
 | some o =>
  cases o <;> intro h <;> simp_all
theorem str_trod {H : Type} {enc : TypeId × Value → H} {P : Program} {w : World} {base : Nat} {sp : Nat → Bool} {held : Bool} {fuel : Nat} {t : TypeId} {cs : List Value} {d : DataW H} {p : List MemPlace} {l : List UInt8}
  (ht : P.underlying t = some .string) (h : DataW.trod enc P w base sp held fuel t cs = some (d, p)) (hd : d = .lit (.string l)) : cs = [.string ⟨l.toArray⟩] := by
 obtain ⟨s, hc, hx, _⟩ := DataW.trod_string ht h
 have h1 := congrArg Prod.fst hx
 simp only at h1
 rw [hd] at h1
 simp only [DataW.lit.injEq, Lit.string.injEq] at h1
 rw [hc, h1]
/-- the strings of an array that was laid -/
theorem strs_of {W : World} {n : Nat} {t : TypeId} {f : Nat} {cs : Array Value} {ls : List (List UInt8)} {p : List MemPlace} {enc : TypeId × Value → Unit} {base : Nat} {sp : Nat → Bool} {held : Bool} (hu : Tryz.prog.underlying t = some (.array n 9)) (hl : ls.length = n)
  (hd : DataW.trod enc Tryz.prog W base sp held f t cs.toList = some (.agg (ls.map fun l => .lit (.string l)), p)) : ∀ (i : Nat) (l : List UInt8), ls[i]? = some l → cs[i]? = some (Value.string ⟨l.toArray⟩) := by
 obtain ⟨xs, m1, rfl, hx1, hlen, hn3, hel⟩ := DataW.trod_array hu hd
 have hx := congrArg Prod.fst hx1
 simp only [DataW.agg.injEq] at hx
 intro i l hi
 obtain ⟨hlt, rfl⟩ := List.getElem?_eq_some_iff.1 hi
 have he := hel i (by omega)
 rw [cStr, Nat.mul_one] at he
 have hxl : i < xs.length := by omega
 rw [List.getElem?_eq_getElem hxl] at he
 have hxi : xs[i].1 = .lit (.string ls[i]) := by
  have h2 : (xs.map (·.1))[i]? = (ls.map fun l => (DataW.lit (.string l) : DataW Unit))[i]? := by rw [← hx]
  rw [List.getElem?_map, List.getElem?_map, List.getElem?_eq_getElem hxl, List.getElem?_eq_getElem hlt] at h2
  simpa using h2
 have hc := str_trod (l := ls[i]) Tryz.underlying9 (d := xs[i].1) (p := xs[i].2) he hxi
 have h0 : ((cs.toList.drop i).take 1)[0]? = some (.string ⟨ls[i].toArray⟩) := by rw [hc]; rfl
 rw [List.getElem?_take, if_pos (by omega), List.getElem?_drop, Nat.add_zero] at h0
 simpa using h0
theorem int_trod {H : Type} {enc : TypeId × Value → H} {P : Program} {w : World} {base : Nat} {sp : Nat → Bool} {held : Bool} {fuel : Nat} {t : TypeId} {k : IntKind} {cs : List Value} {d : DataW H} {p : List MemPlace} {n : Int}
  (ht : P.underlying t = some (.int k)) (h : DataW.trod enc P w base sp held fuel t cs = some (d, p)) (hd : d = .lit (.int k n)) : cs = [.int k n] := by
 cases fuel with
 | zero => simp [DataW.trod] at h
 | succ fuel =>
  rcases cs with _ | ⟨c, _ | ⟨c', r⟩⟩
  ·simp [DataW.trod, ht] at h
  ·cases c <;> simp [DataW.trod, ht] at h
   rename_i k' m
   obtain ⟨⟨rfl, _⟩, rfl, _⟩ := h
   simpa using hd
  ·simp [DataW.trod, ht] at h
theorem lenTab : Lib.pow10Tab.length = 20 := by decide
theorem lib_of_laid0 {W : World} (h : laidMetH Tryz.prog laid5 W) : LibP W := by
 rw [MakeChecks.laidMetH_plain _ _ _ (by kernel_rfl)] at h
 obtain ⟨ps, ⟨g0, t0, cs0, f0, p0, q0, hg0, ht0, hv0, hd0, ⟨g1, t1, cs1, f1, p1, q1, hg1, ht1, hv1, hd1, ⟨g2, t2, cs2, f2, p2, q2, hg2, ht2, hv2, hd2, ⟨g3, t3, cs3, f3, p3, q3, hg3, ht3, hv3, hd3, ⟨g4, t4, cs4, f4, p4, q4, hg4, ht4, hv4, hd4, ⟨g5, t5, cs5, f5, p5, q5, hg5, ht5, hv5, hd5, ⟨g6, t6, cs6, f6, p6, q6, hg6, ht6, hv6, hd6, _, _⟩, _⟩, _⟩, _⟩, _⟩, _⟩, _⟩, _, _⟩ := h
 obtain rfl := Option.some.inj (gGrp.symm.trans hg3)
 obtain rfl := Option.some.inj (tGrp.symm.trans ht3)
 obtain rfl := Option.some.inj (gFun.symm.trans hg4)
 obtain rfl := Option.some.inj (tFun.symm.trans ht4)
 obtain rfl := Option.some.inj (gMat.symm.trans hg5)
 obtain rfl := Option.some.inj (tMat.symm.trans ht5)
 obtain rfl := Option.some.inj (gOpr.symm.trans hg6)
 obtain rfl := Option.some.inj (tOpr.symm.trans ht6)
 obtain rfl := Option.some.inj (gTab.symm.trans hg2)
 obtain rfl := Option.some.inj (tTab.symm.trans ht2)
 refine ⟨?_, ?_, ?_, ?_, ?_⟩
 ·obtain ⟨z, k⟩ := var_cells gGrp hv3
  have s := strs_of (ls := groupsT) Tryz.underlying127 rfl hd3
  exact ⟨z, fun i x hx => k i _ (s i x hx)⟩
 ·obtain ⟨z, k⟩ := var_cells gFun hv4
  have s := strs_of (ls := funcsT) Tryz.underlying132 rfl hd4
  exact ⟨z, fun i x hx => k i _ (s i x hx)⟩
 ·obtain ⟨z, k⟩ := var_cells gMat hv5
  have s := strs_of (ls := matchT) Tryz.underlying131 rfl hd5
  exact ⟨z, fun i x hx => k i _ (s i x hx)⟩
 ·obtain ⟨z, k⟩ := var_cells gOpr hv6
  have s := strs_of (ls := opersT) Tryz.underlying119 rfl hd6
  exact ⟨z, fun i x hx => k i _ (s i x hx)⟩
 ·unfold Lib.TabIs
  rw [hv2]
  congr 1
  obtain ⟨xs, m1, rfl, hx1, hlen, hn3, hel⟩ := DataW.trod_array Tryz.underlying160 hd2
  rw [cTab] at hlen
  have hx := congrArg Prod.fst hx1
  simp only [Rows.laid_internal_strconv_uint64pow10, DataW.agg.injEq] at hx
  apply Array.toList_inj.1
  apply List.ext_getElem?
  intro i
  by_cases hi : i < 20
  ·have he := hel i hi
   rw [cU64, Nat.mul_one] at he
   have hxi : (xs.map (·.1))[i]? = (Lib.pow10Tab.map fun z => (DataW.lit (.int .u64 z) : DataW Unit))[i]? := by rw [← hx]; rfl
   have hlt : i < xs.length := by omega
   rw [List.getElem?_eq_getElem hlt] at he
   have hlp : i < Lib.pow10Tab.length := by rw [lenTab]; exact hi
   rw [List.getElem?_map, List.getElem?_map, List.getElem?_eq_getElem hlt, List.getElem?_eq_getElem hlp] at hxi
   simp only [Option.map_some, Option.some.injEq] at hxi
   have hc := int_trod (n := Lib.pow10Tab[i]) Tryz.underlying144 (d := xs[i].1) (p := xs[i].2) he hxi
   have h0 : ((cs2.toList.drop i).take 1)[0]? = some (.int .u64 Lib.pow10Tab[i]) := by rw [hc]; rfl
   rw [List.getElem?_take, if_pos (by omega), List.getElem?_drop, Nat.add_zero] at h0
   rw [h0]
   simp [List.getElem?_map, List.getElem?_eq_getElem hlp]
  ·rw [List.getElem?_eq_none (by omega), List.getElem?_eq_none (by simp [lenTab]; omega)]
theorem lib_of_laid {W : World} (h : laidMetH Tryz.prog laid5 W) : LibP W := lib_of_laid0 h
end
end Go.Proofs.YthoibeajhdhdhaaGreatDoor
