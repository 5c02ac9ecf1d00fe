/- Contracts, packed: Jh Jn Ud Jv. -/
import Derived.Test.YtpgdijbfkahepaaGreatDoorPd11
import Derived.Test.YtpgdijbfkahepaaGreatDoorPd28
import Derived.Test.YtpgdijbfkahepaaGreatDoorPd41
import Derived.ProofKit
import Derived.LaidMore
import Derived.LaidLaws
import Derived.OpenShut
import Derived.Stop.Joined
import Derived.HandedShaped
import Derived.Shelf.Vars
set_option linter.unusedVariables false
set_option linter.unusedSimpArgs false
namespace Go.Proofs.YtpgdijbfkahepaaGreatDoor
section
open Go.RowKit FracM
/-- Parse at a text whose parse is known -/
theorem parse_at (s : ByteArray) (T : Tree) (a er : Int) (w : World) (hs : s.size ≤ maxLen) (hw : WordsV w) (hp : parseT (lst s) = (T, a, er)) :
  Calls Tryz.prog 23 #[.string s] w fun e w' => ∃ mv bv kv, e = .returned (.tuple #[.agg (ndC T.d mv bv kv), .int .i64 a, .int .i64 er]) ∧ TreeAt w' (fun b _ => w.heap.size ≤ b) T (mv, bv, kv) ∧ Below w.heap.size w w' :=
 (pparse_any s w hs hw).mono fun e w' ⟨mv, bv, kv, he, hT, hb⟩ => ⟨mv, bv, kv, by rw [he, hp], by rw [hp] at hT; exact hT, hb⟩
theorem groups_eq : groupsL = groupsT.map bsL := rfl
/-- the words of the parser give those of Valid -/
theorem wordsV_g {w : World} (h : WordsV w) : WordsG w := by
 have g : ∀ (k : Nat) (x : ByteArray), groupsL[k]? = some x → w.cell? ⟨1, k, none⟩ = some (.string x) := fun k x hx => by
  rw [groups_eq, List.getElem?_map] at hx
  cases hy : groupsT[k]? with
  | none => rw [hy] at hx; cases hx
  | some y => rw [hy] at hx; cases hx; exact h.grp.2 k y hy
 refine ⟨⟨fun k hk => ?_, h.grp.1, h.grp.1⟩, g⟩
 match k, hk with
 | 0, _ => exact ⟨_, g 0 _ rfl, by decide +kernel⟩
 | 1, _ => exact ⟨_, g 1 _ rfl, by decide +kernel⟩
 | 2, _ => exact ⟨_, g 2 _ rfl, by decide +kernel⟩
 | 3, _ => exact ⟨_, g 3 _ rfl, by decide +kernel⟩
 | 4, _ => exact ⟨_, g 4 _ rfl, by decide +kernel⟩
end
section
open Go.RowKit FracM
end
section
open Go.RowKit FracM
theorem postL_app (a b : List Tree) : postL (a ++ b) = postL a ++ postL b := by
 induction a with
 | nil => rfl
 | cons t r ih => rw [List.cons_append, postL, postL, ih, List.append_assoc]
theorem stackM_back : ∀ (l : List Nd) (st st' : List Tree), stackM l st = some st' → postL st' = postL st ++ l := by
 intro l
 induction l with
 | nil => intro st st' h; rw [stackM] at h; cases h; rw [List.append_nil]
 | cons d r ih =>
  intro st st' h
  rw [stackM] at h
  split at h
  ·rw [ih _ _ h, postL_app, postL, postT, postL, List.append_nil, ← List.append_assoc (postL (st.take _)), ← postL_app, List.take_append_drop, List.append_assoc]
   rfl
  ·cases h
/-- a plan is what its tree is compiled to -/
theorem tree_back {l : List Nd} {t : Tree} (h : treeM l = (t, 0)) : postT t = l ∧ validE t = 0 := by
 unfold treeM at h
 split at h
 ·simp at h
 ·split at h
  ·next u hu =>
   split at h
   ·next hv =>
    simp only [Prod.mk.injEq, and_true] at h
    subst h
    have := stackM_back l [] [u] hu
    simp only [postL, List.append_nil, List.nil_append] at this
    exact ⟨this, hv⟩
   ·next hv => simp only [Prod.mk.injEq] at h; exact absurd h.2 hv
  ·simp at h
theorem validE_chk {t : Tree} (h : validE t = 0) : chk t = 0 := by
 unfold validE at h
 split at h
 ·cases h
 ·exact h
theorem post_chk1 : ∀ t, chk t = 0 → ∀ d ∈ postT t, ∃ n, chk1 d n = 0 := Tree.ind fun d ks ih h e he => by
 obtain ⟨h1, h2⟩ := chk_ok h
 rw [postT] at he
 rcases List.mem_append.1 he with he | he
 ·have : ∀ (l : List Tree), (∀ t ∈ l, t ∈ ks) → e ∈ postL l → ∃ n, chk1 e n = 0 := by
   intro l
   induction l with
   | nil => intro _ h; cases h
   | cons x xs ihx =>
    intro hl h
    rw [postL] at h
    rcases List.mem_append.1 h with h | h
    ·exact ih x (hl x (by simp)) (h2 x (hl x (by simp))) e h
    ·exact ihx (fun t ht => hl t (by simp [ht])) h
  exact this ks (fun t ht => ht) he
 ·simp only [List.mem_singleton] at he
  subst he
  exact ⟨_, h1⟩
theorem chk1_rng {d : Nd} {n : Nat} (h : chk1 d n = 0) : rangedB d = true := by
 unfold chk1 at h
 cases hr : rangedB d with
 | true => rfl
 | false =>
  rw [hr] at h
  split at h
  ·cases h
  split at h
  ·cases h
  split at h
  ·cases h
  simp at h
/-- the instructions of a valid plan -/
theorem plan_rng {l : List Nd} (h : (treeM l).2 = 0) : ∀ d ∈ l, rangedB d = true := by
 intro d hd
 obtain ⟨h1, h2⟩ := tree_back (t := (treeM l).1) (by rw [← h])
 rw [← h1] at hd
 obtain ⟨n, hn⟩ := post_chk1 _ (validE_chk h2) d hd
 exact chk1_rng hn
theorem firstM_le {d : Nd} (h : rangedB d = true) (hk : d.kind = 1) : firstM d ≤ 0 := by
 unfold rangedB at h
 rw [if_pos hk] at h
 simp only [Bool.and_eq_true, decide_eq_true_eq] at h
 unfold firstM
 by_cases h0 : d.fn = 0
 ·rw [if_pos h0]; omega
 ·rw [if_neg h0] at h
  simp only [Bool.and_eq_true, decide_eq_true_eq] at h
  rw [if_neg h0]
  split <;> omega
theorem reach_app (r : Int) (a b : List Nd) : reachL r (a ++ b) = reachL (reachL r a) b := by unfold reachL; rw [List.foldl_append]
/-- the reference's comparison of plans -/
def leafT (d : Nd) : Tree := .node d []
/-- the law's example -/
def liveQ : List UInt8 := [97, 46, 109, 101, 97, 110, 40, 51, 41, 64, 49, 32, 45, 32, 50]
def liveU : Tree := .node ⟨3, 1, 0, 0, 0, 0, 0, ⟨#[]⟩, [], []⟩ [.node ⟨1, 4, 3, 1, 0, 0, 0, ⟨#[97]⟩, [], []⟩ [], .node ⟨0, 0, 0, 0, 0, 2, 1, ⟨#[]⟩, [], []⟩ []]
theorem live_q : parseT liveQ = (liveU, 0, 0) := by kernel_rfl
theorem live_v : validE liveU = 0 := by kernel_rfl
theorem live_c : compileM liveU = (postT liveU, 0) := if_pos live_v
theorem live_r : reachM (postT liveU) = -3 := by
 unfold reachM
 rw [tree_post live_v]
 rfl
theorem live_b : treeM [⟨3, 0, 0, 0, 0, 0, 0, ⟨#[]⟩, [], []⟩] = (zeroT, 1) := rfl
end
section
open Go.ChangeShapes Go.WideShapes Go.ChangeAt Go.RowKit
theorem own : ownKnob Tryz.prog.godebug = none := by kernel_rfl
theorem laidOut : laidOutB Tryz.prog = true := by kernel_rfl
/-- the wrap, with the listed variables and the world's shape both handed on -/
theorem handed_both {H : Type} {enc : TypeId × Value → H} {a : Assume} {C : Checked} {os : Os} {f : FuncId} {fn : Func} {s : ChangeSpec} {conds : List PathCond} {apart fresh handsOn again : Bool} {X : World → Array Value → Prop}
  (hX : ∀ (w w' : World) (args : Array Value), w.heap = w'.heap → X w args → X w' args)
  (own : ownKnob C.prog.godebug = none) (started : os.Started) (noInit : C.prog.inits.idxOf? f = none) (hfn : C.prog.funcs[f]? = some fn)
  (witness : ∃ (w : World) (tape : Tape) (i : Input), w.os = os ∧ (w.forCall tape i).Shaped C.prog ∧ i.vars = [] ∧ Input.okWide C.prog (w.forCall tape i) .any w.heap.size f i ∧
   ((s.pre enc C.prog fn conds apart (w.forCall tape i).memory i.args ∧ X (w.forCall tape i).memory i.args) ∧ sizedMet enc C.prog fn (OpenSpec.ofChange s) apart (w.forCall tape i).memory i.args) ∧ a.holds C.prog (lone (Frame.enter C.prog f i.args .normal) [] (w.forCall tape i)))
  (contract : ∀ (W : World) (base : Nat) (args : Array Value) (ds gs : List (DataW H)) (before : List MemPlace),
   (∀ (j : Nat) t v, fn.params[j]? = some t → args[j]? = some v → Value.okWide C.prog W .any base t v) →
   DataW.Whole enc C.prog fn.params.toList s.vars apart W args.toList ds gs before →
   X W args → W.ShapedOpen C.prog →
   Calls C.prog f args W fun e W' => ∃ v, e = .returned v ∧ s.post enc C.prog fn apart fresh handsOn again W args v W') :
  ReturnsInHanded a C os f .any (fun w args => (s.pre enc C.prog fn conds apart w args ∧ X w args) ∧ sizedMet enc C.prog fn (OpenSpec.ofChange s) apart w args) (s.post enc C.prog fn apart fresh handsOn again) := by
 refine returnsInHanded_of_calls own started noInit witness ?_
 intro w tape i _ hsh _ hok hpre hholds
 obtain ⟨_, _, _, fn', hfn', _, _, _, _, hval⟩ := hok
 have e : fn' = fn := Option.some.inj (hfn'.symm.trans hfn)
 subst e
 obtain ⟨⟨⟨ds, gs, before, hw, hc⟩, hx⟩, hz⟩ := hpre
 have hw' := DataW.Whole.of_heap (w' := w.forCall tape i) (by rfl) hw
 refine (contract (w.forCall tape i) w.heap.size i.args ds gs before hval hw' (hX _ _ _ (by rfl) hx) hsh).mono fun e W' ⟨v, he, hp⟩ => ?_
 subst he
 exact ChangeSpec.post_blind hp
def laid5 : List (String × DataW Unit) := [("intervalmon/parser.groupWords", Rows.laid_intervalmon_parser_groupWords), ("intervalmon/parser.functionWords", Rows.laid_intervalmon_parser_functionWords), ("intervalmon/parser.matchSymbols", Rows.laid_intervalmon_parser_matchSymbols), ("intervalmon/parser.operators", Rows.laid_intervalmon_parser_operators)]
theorem door_met (os : Os) (args : Array Value) : laidMetH Tryz.prog laid5 ((World.doorLaid Tryz.prog 400 os).forCall (fun _ _ => 0) ⟨#[], args, []⟩).memory :=
 laidMetH_of_parts3 (fuel := 8) (laidMet_of_run' 8 (by kernel_rfl) (by kernel_rfl)) (by kernel_rfl) (by kernel_rfl)
theorem gGrp : Tryz.prog.globalNamed "intervalmon/parser.groupWords" = some 1 := by kernel_rfl
theorem tGrp : (Tryz.prog.globals[1]?).map (·.type) = some 124 := by kernel_rfl
theorem gFun : Tryz.prog.globalNamed "intervalmon/parser.functionWords" = some 3 := by kernel_rfl
theorem tFun : (Tryz.prog.globals[3]?).map (·.type) = some 135 := by kernel_rfl
theorem gMat : Tryz.prog.globalNamed "intervalmon/parser.matchSymbols" = some 2 := by kernel_rfl
theorem tMat : (Tryz.prog.globals[2]?).map (·.type) = some 134 := by kernel_rfl
theorem gOpr : Tryz.prog.globalNamed "intervalmon/parser.operators" = some 0 := by kernel_rfl
theorem tOpr : (Tryz.prog.globals[0]?).map (·.type) = some 117 := by kernel_rfl
theorem cStr : Tryz.prog.cellsOf 9 = 1 := by kernel_rfl
theorem var_cells {n : String} {g : Nat} {w : World} {cs : Array Value} (hg : Tryz.prog.globalNamed n = some g) (h : w.var? Tryz.prog n = some cs) : g < w.heap.size ∧ ∀ (k : Nat) (v : Value), cs[k]? = some v → w.cell? ⟨g, k, none⟩ = some v := by
 unfold World.var? at h
 rw [hg] at h
 simp only [Option.bind_some] at h
 have hlt : g < w.heap.size := by
  rcases Nat.lt_or_ge g w.heap.size with h' | h'
  ·exact h'
  ·rw [Array.getElem?_eq_none h'] at h; cases h
 refine ⟨hlt, fun k v hk => ?_⟩
 unfold World.cell?
 revert h
 cases hh : w.heap[g]? with
 | none => intro h; cases h
 | some o =>
  cases o <;> intro h <;> simp_all
theorem str_trod {H : Type} {enc : TypeId × Value → H} {P : Program} {w : World} {base : Nat} {sp : Nat → Bool} {held : Bool} {fuel : Nat} {t : TypeId} {cs : List Value} {d : DataW H} {p : List MemPlace} {l : List UInt8}
  (ht : P.underlying t = some .string) (h : DataW.trod enc P w base sp held fuel t cs = some (d, p)) (hd : d = .lit (.string l)) : cs = [.string ⟨l.toArray⟩] := by
 obtain ⟨s, hc, hx, _⟩ := DataW.trod_string ht h
 have h1 := congrArg Prod.fst hx
 simp only at h1
 rw [hd] at h1
 simp only [DataW.lit.injEq, Lit.string.injEq] at h1
 rw [hc, h1]
/-- the strings of an array that was laid -/
theorem strs_of {W : World} {n : Nat} {t : TypeId} {f : Nat} {cs : Array Value} {ls : List (List UInt8)} {p : List MemPlace} {enc : TypeId × Value → Unit} {base : Nat} {sp : Nat → Bool} {held : Bool} (hu : Tryz.prog.underlying t = some (.array n 9)) (hl : ls.length = n)
  (hd : DataW.trod enc Tryz.prog W base sp held f t cs.toList = some (.agg (ls.map fun l => .lit (.string l)), p)) : ∀ (i : Nat) (l : List UInt8), ls[i]? = some l → cs[i]? = some (Value.string ⟨l.toArray⟩) := by
 obtain ⟨xs, m1, rfl, hx1, hlen, hn3, hel⟩ := DataW.trod_array hu hd
 have hx := congrArg Prod.fst hx1
 simp only [DataW.agg.injEq] at hx
 intro i l hi
 obtain ⟨hlt, rfl⟩ := List.getElem?_eq_some_iff.1 hi
 have he := hel i (by omega)
 rw [cStr, Nat.mul_one] at he
 have hxl : i < xs.length := by omega
 rw [List.getElem?_eq_getElem hxl] at he
 have hxi : xs[i].1 = .lit (.string ls[i]) := by
  have h2 : (xs.map (·.1))[i]? = (ls.map fun l => (DataW.lit (.string l) : DataW Unit))[i]? := by rw [← hx]
  rw [List.getElem?_map, List.getElem?_map, List.getElem?_eq_getElem hxl, List.getElem?_eq_getElem hlt] at h2
  simpa using h2
 have hc := str_trod (l := ls[i]) Tryz.underlying9 (d := xs[i].1) (p := xs[i].2) he hxi
 have h0 : ((cs.toList.drop i).take 1)[0]? = some (.string ⟨ls[i].toArray⟩) := by rw [hc]; rfl
 rw [List.getElem?_take, if_pos (by omega), List.getElem?_drop, Nat.add_zero] at h0
 simpa using h0
theorem lib_of_laid0 {W : World} (h : laidMetH Tryz.prog laid5 W) : WordsV W := by
 rw [MakeChecks.laidMetH_plain _ _ _ (by kernel_rfl)] at h
 obtain ⟨ps, ⟨g0, t0, cs0, f0, p0, q0, hg0, ht0, hv0, hd0, ⟨g1, t1, cs1, f1, p1, q1, hg1, ht1, hv1, hd1, ⟨g2, t2, cs2, f2, p2, q2, hg2, ht2, hv2, hd2, ⟨g3, t3, cs3, f3, p3, q3, hg3, ht3, hv3, hd3, _, _⟩, _⟩, _⟩, _⟩, _, _⟩ := h
 obtain rfl := Option.some.inj (gGrp.symm.trans hg0)
 obtain rfl := Option.some.inj (tGrp.symm.trans ht0)
 obtain rfl := Option.some.inj (gFun.symm.trans hg1)
 obtain rfl := Option.some.inj (tFun.symm.trans ht1)
 obtain rfl := Option.some.inj (gMat.symm.trans hg2)
 obtain rfl := Option.some.inj (tMat.symm.trans ht2)
 obtain rfl := Option.some.inj (gOpr.symm.trans hg3)
 obtain rfl := Option.some.inj (tOpr.symm.trans ht3)
 refine ⟨?_, ?_, ?_, ?_⟩
 ·obtain ⟨z, k⟩ := var_cells gGrp hv0
  have s := strs_of (ls := groupsT) Tryz.underlying124 rfl hd0
  exact ⟨z, fun i x hx => k i _ (s i x hx)⟩
 ·obtain ⟨z, k⟩ := var_cells gFun hv1
  have s := strs_of (ls := funcsT) Tryz.underlying135 rfl hd1
  exact ⟨z, fun i x hx => k i _ (s i x hx)⟩
 ·obtain ⟨z, k⟩ := var_cells gMat hv2
  have s := strs_of (ls := matchT) Tryz.underlying134 rfl hd2
  exact ⟨z, fun i x hx => k i _ (s i x hx)⟩
 ·obtain ⟨z, k⟩ := var_cells gOpr hv3
  have s := strs_of (ls := opersT) Tryz.underlying117 rfl hd3
  exact ⟨z, fun i x hx => k i _ (s i x hx)⟩
theorem lib_of_laid {W : World} (h : laidMetH Tryz.prog laid5 W) : WordsV W := lib_of_laid0 h
end
end Go.Proofs.YtpgdijbfkahepaaGreatDoor
