/- Contracts, packed: Ad. -/
import Derived.Test.YtpgdijbfkahepaaGreatDoorPd49
import Derived.IntWalk
set_option linter.unusedVariables false
set_option linter.unusedSimpArgs false
namespace Go.Proofs.YtpgdijbfkahepaaGreatDoor
section
open Go.RowKit FracM
section
variable {P : Program} (w : World)
theorem wpList_append_nil {ops : Array Oper} {rest : List Oper} {o : Oper} {a : Act} {Q : Exit → Act → World → Prop} (hgd : o.guard = none) (s x : Operand) (t : TypeId)
  (ho : o.op = .call { callee := .builtin .append, args := #[s, x], argTypes := #[t, t] })
  (e : TypeId) (i : TypeInfo) (z : Value) (size bytes : Nat) (ht : P.underlying t = some (.slice e)) (hi : P.info? e = some i) (hz : i.zero = some z)
  (hsize : i.size = size) (hby : i.bytes = bytes) (hzs : z.cells.size = size) (hsz : 0 < size) (A : Option Addr) (m c : Nat) (news : List Value) {R : Nat → Nat → Prop} (hs : a.eval s = .slice none 0 0) (hx : a.eval x = .slice A m c) (hr : SeqP w R size (.slice A m c) m news) (h1 : ∀ u ∈ news, u.oneCell' = true) (hm : m * bytes ≤ 140737488355328)
  (h : ∀ v' w', w'.ownsRow w.heap.size e size v' m news → Below w.heap.size w w' → wpList P ops Q rest (a.put o.dst v') w') : wpList P ops Q (o :: rest) a w :=
 wpList_plain hgd fun _ hK => wp_append_nil w s x t ho e i z size bytes ht hi hz hsize hby hzs hsz A m c news hs hx hr h1 hm fun v' w' h2 h3 => hK _ _ (h v' w' h2 h3)
theorem step_append_ownX {ops : Array Oper} {o : Oper} {a : Act} {K : Act → World → Prop} {Q : Exit → Act → World → Prop} {E : Prop} (hgd : o.guard = none) (s x : Operand) (t : TypeId)
  (ho : o.op = .call { callee := .builtin .append, args := #[s, x], argTypes := #[t, t] })
  (base : Nat) (e : TypeId) (i : TypeInfo) (z : Value) (size bytes : Nat) (ht : P.underlying t = some (.slice e)) (hi : P.info? e = some i) (hz : i.zero = some z)
  (hsize : i.size = size) (hby : i.bytes = bytes) (hzs : z.cells.size = size) (hsz : 0 < size)
  (v : Value) (n : Nat) (xs : List Value) (hs : a.eval s = v) (hown : w.ownsRow base e size v n xs)
  (ad : Addr) (m c : Nat) (news : List Value) (hx : a.eval x = .slice (some ad) m c) (hl : news.length = m * size) (hnews : ∀ j u, news[j]? = some u → w.cell? (ad.add j) = some u) (h1 : ∀ u ∈ news, u.oneCell' = true)
  (h63 : n + m ≤ maxLen) (hbytes : (n + m) * bytes ≤ 140737488355328) (hbase : base ≤ w.heap.size)
  (h : ∀ v' w', w'.ownsRow base e size v' (n + m) (xs ++ news) → w.grownBy w' v.ownBlock → K (a.put o.dst v') w') :
  if Region.wanted o (yielded ops a.tmps) = true then Oper.wp P o a w K Q else E := by
 have hw : Region.wanted o (yielded ops a.tmps) = true := by simp [Region.wanted, hgd]
 rw [if_pos hw]
 exact wp_append_own w s x t ho base e i z size bytes ht hi hz hsize hby hzs hsz v n xs hs hown ad m c news hx hl hnews h1 h63 hbytes hbase fun v' w' h2 h3 _ => h v' w' h2 h3
end
theorem PlW.cells {W : World} {B g n c : Nat} {P : Nat → Nat → Prop} {l : List Nd} (h : PlW W B P (.slice (some ⟨g, 0, none⟩) n c) l) {i : Nat} {d : Nd} (hd : l[i]? = some d) : ∃ mv bv, At10 W g (i * 10) d mv bv ∧ InsAt W P d mv bv ∧ ∀ o, W.frozen? ⟨g, o, none⟩ = false := by
 obtain ⟨cs, hown, hrow⟩ := h
 have hi : i < l.length := (List.getElem?_eq_some_iff.1 hd).1
 obtain ⟨s, hs⟩ : ∃ s, cs[i]? = some s := ⟨cs[i]'(by rw [hrow.1]; exact hi), List.getElem?_eq_getElem _⟩
 have hz : (l.zip cs)[i]? = some (d, s) := by rw [List.getElem?_zip_eq_some]; exact ⟨hd, hs⟩
 have hc : ∀ j u, ((l.zip cs).flatMap insL)[j]? = some u → W.cell? ⟨g, j, none⟩ = some u := fun j u hu => by have := hown.cells rfl j u hu; rwa [addr_add0] at this
 have gg := fun j (hj : j < 10) => flat_get insL 10 (fun _ => rfl) (l.zip cs) i j _ hz hj
 refine ⟨s.1, s.2, ⟨hc _ _ ((gg 0 (by omega)).trans rfl), hc _ _ ((gg 1 (by omega)).trans rfl), hc _ _ ((gg 2 (by omega)).trans rfl), hc _ _ ((gg 3 (by omega)).trans rfl), hc _ _ ((gg 4 (by omega)).trans rfl), hc _ _ ((gg 5 (by omega)).trans rfl), hc _ _ ((gg 6 (by omega)).trans rfl), hc _ _ ((gg 7 (by omega)).trans rfl), hc _ _ ((gg 8 (by omega)).trans rfl), hc _ _ ((gg 9 (by omega)).trans rfl)⟩, hrow.2 i d s hd hs, ?_⟩
 rcases hown.2 with ⟨hv, _⟩ | ⟨g', cap, cur, hv, hg, hh, -⟩
 ·cases hv
 ·cases hv
  intro o
  simp [World.frozen?, hh]
theorem InsRows.take {w : World} {P : Nat → Nat → Prop} {l : List Nd} {cs : List Sl2} (h : InsRows w P l cs) (k : Nat) : InsRows w P (l.take k) (cs.take k) := by
 refine ⟨by rw [List.length_take, List.length_take, h.1], fun i d c h1 h2 => ?_⟩
 have hi : i < k := by have := (List.getElem?_eq_some_iff.1 h1).1; rw [List.length_take] at this; omega
 rw [List.getElem?_take_of_lt hi] at h1 h2
 exact h.2 i d c h1 h2
theorem InsRows.drop {w : World} {P : Nat → Nat → Prop} {l : List Nd} {cs : List Sl2} (h : InsRows w P l cs) (k : Nat) : InsRows w P (l.drop k) (cs.drop k) := by
 refine ⟨by rw [List.length_drop, List.length_drop, h.1], fun i d c h1 h2 => ?_⟩
 rw [List.getElem?_drop] at h1 h2
 exact h.2 _ d c h1 h2
/-- a changed plan -/
def RetCh (l : List Nd) (w : World) (e : Ending) (w' : World) : Prop := ∃ m v', e = .returned v' ∧ PlW w' w.heap.size (fun b _ => b < w.heap.size) v' m ∧ m.length ≤ l.length + 1 ∧ (∀ d ∈ m, SmallD d) ∧ Below w.heap.size w w'
/-- the copy, and the plan as it was handed in -/
structure ChS (w W : World) (g c9 : Nat) (pv : Value) (l m : List Nd) : Prop where
 below : Below w.heap.size w W
 out : PlW W w.heap.size (fun b _ => b < w.heap.size) (.slice (some ⟨g, 0, none⟩) m.length c9) m
 pl : PlanP W (fun b _ => b < w.heap.size) pv l
 hg : w.heap.size ≤ g
 hlt : g < W.heap.size
theorem small_set {m : List Nd} {i : Nat} {d : Nd} (h : ∀ d ∈ m, SmallD d) (hd : SmallD d) : ∀ e ∈ m.set i d, SmallD e := fun e he => by
 rcases List.mem_or_eq_of_mem_set he with h1 | h1
 ·exact h e h1
 ·rw [h1]; exact hd
theorem plan_slice (A : Option Addr) (n c k : Nat) (hk : k ≤ n) (hn : n ≤ maxLen) : ∀ W : World, (Instr.slice 25 (.slice A n c) (some (.int .i64 (k : Int))) none none).run Tryz.prog W = .ok (.slice (if c = k then A else A.map (·.add (k * 10))) (n - k) (c - k)) W := fun W => by
 rw [run_slice_l W 25 A n c (by kernel_rfl) .i64 (k : Int) (by omega) (by omega)]
 have hs : (sizeOf (Tryz.prog.elem 25)).run Tryz.prog W = .ok 10 W := by kernel_rfl
 rw [hs]
 simp [Result.andThen, sliced]
theorem plan_bot (A : Option Addr) (n c k : Nat) (hk : k ≤ c) (hc : c ≤ maxLen) (W : World) : (Instr.slice 25 (.slice A n c) none (some (.int .i64 (k : Int))) none).run Tryz.prog W = .ok (.slice A k c) W := by
 rw [run_slice_h W 25 A n c (by kernel_rfl) .i64 (k : Int) (by omega) (by omega)]
 have hs : (sizeOf (Tryz.prog.elem 25)).run Tryz.prog W = .ok 10 W := by kernel_rfl
 rw [hs]
 have ha : A.map (·.add 0) = A := by cases A <;> simp [Addr.add]
 simp only [Result.andThen, sliced, Int.toNat_natCast, Nat.zero_mul, Nat.sub_zero, ha, ite_self]
set_option maxHeartbeats 16000000 in
set_option maxRecDepth 100000 in
theorem rchanged_any (l : List Nd) (pv : Value) (at' how v : Int) (w : World) (hp : PlanP w AnyP pv l) (hs : ∀ d ∈ l, SmallD d) (hlen : l.length ≤ 1000) (hat : I64 at') (hhow : I64 how) (hv : I64 v) : Calls Tryz.prog 7 #[pv, .int .i64 at', .int .i64 how, .int .i64 v] w (RetCh l w) := by
 obtain ⟨A, c, rfl, lA⟩ := hp.form
 obtain ⟨j0, hi, hz0, hz1, hz2⟩ := info_parts insInfo
 have HJ := Box.mk (And.intro hi (And.intro hz0 (And.intro hz1 hz2)))
 have HPL : Box (PlanP w (fun b _ => b < w.heap.size) (.slice A l.length c) l) := ⟨hp.mono fun _ _ hb _ => hb⟩
 have HV := Box.mk hv
 have HSM := Box.mk hs
 obtain ⟨ha1, ha2⟩ := hat
 obtain ⟨hh1, hh2⟩ := hhow
 clear hi hz0 hz1 hz2 hp hv hs
 obtain ⟨cs0, hseq, hrow0⟩ := HPL.out.rows
 have HSQ := Box.mk (And.intro hseq hrow0)
 clear hseq hrow0
 by_cases h0 : l.length = 0
 ·have hl0 : l = [] := List.eq_nil_of_length_eq_zero h0
  have HNIL : Box (RetCh l w (.returned (.slice none 0 0)) w) := ⟨[], _, rfl, PlW.nil _ _ _, by simp, fun d h => (by cases h), Below.refl _ _⟩
  have h01 : (l.length == 0) = true := by simpa using h0
  have h02 : ((l.length : Int) == 0) = true := by simp [h0]
  have HL0 := Box.mk hl0
  clear hl0 h0
  go_enter Tryz.func7, Tryz.ntmps7
  go_wp2_with (at_builtin; refine wpList_append_nil _ rfl _ _ 25 rfl 55 j0 _ 10 120 Tryz.underlying25 HJ.out.1 HJ.out.2.1 HJ.out.2.2.1 HJ.out.2.2.2 rfl (by decide) A l.length c ((l.zip cs0).flatMap insL) (R := fun b _ => b < w.heap.size) rfl rfl HSQ.out.1 HSQ.out.2.one (by omega) ?_; intro v9 w9 hown9 hb9; obtain ⟨A9, c9, rfl⟩ := own_form hown9; have HR9 : Box (w9.ownsRow w.heap.size 55 10 (.slice A9 l.length c9) l.length ((l.zip cs0).flatMap insL) ∧ InsRows w9 (fun b _ => b < w.heap.size) l cs0 ∧ Below w.heap.size w w9) := ⟨hown9, HSQ.out.2.keep (Agree.of_below hb9), hb9⟩; clear hown9 hb9)
  go_ret
  exact ⟨l, _, rfl, ⟨cs0, HR9.out.1, HR9.out.2.1⟩, by omega, HSM.out, HR9.out.2.2⟩
 ·have hpos : 0 < l.length := by omega
  have h01 : (l.length == 0) = false := by simpa using h0
  have h02 : ((l.length : Int) == 0) = false := by simpa using h0
  obtain ⟨pb, po, rfl, plt, hpbw, hpc⟩ := HSQ.out.1.2.elim fun A' h => h.elim fun c' h => by
   obtain ⟨hv, h1, h2, h3⟩ := h
   cases hv
   exact h3 hpos
  have hcn : l.length ≤ c ∧ c ≤ maxLen := by
   obtain ⟨-, A', c', hv, h1, h2, -⟩ := HSQ.out.1
   cases hv
   exact ⟨h1, h2⟩
  obtain ⟨hcn1, hcn2⟩ := hcn
  have HPC := Box.mk hpc
  obtain ⟨b1, b2⟩ := around_bd at' (l.length : Int) (by omega)
  obtain ⟨i, hie⟩ : ∃ i : Nat, around at' (l.length : Int) = (i : Int) := ⟨(around at' (l.length : Int)).toNat, by omega⟩
  have CA : Box (∀ W : World, Calls Tryz.prog 17 #[.int .i64 at', .int .i64 (l.length : Int)] W fun e w' => e = .returned (.int .i64 (i : Int)) ∧ W = w') := ⟨fun W => by rw [← hie]; exact around_any at' (l.length : Int) W ha1 ha2 (by omega) (by omega)⟩
  have hil : i < l.length := by omega
  have hil2 : (i : Int) < (l.length : Int) := by omega
  have hi0 : (0 : Int) ≤ (i : Int) := by omega
  obtain ⟨d1, d2⟩ := around_bd how 7 (by omega)
  obtain ⟨kk, hkk⟩ : ∃ kk, around how 7 = kk := ⟨_, rfl⟩
  have CK : Box (∀ W : World, Calls Tryz.prog 17 #[.int .i64 how, .int .i64 7] W fun e w' => e = .returned (.int .i64 kk) ∧ W = w') := ⟨fun W => by rw [← hkk]; exact around_any how 7 W hh1 hh2 (by omega) (by omega)⟩
  rw [hkk] at d1 d2
  clear h0 b1 b2 hie hkk hpbw hpc ha1 ha2 hh1 hh2
  obtain ⟨d, hd⟩ : ∃ d, l[i]? = some d := ⟨l[i], List.getElem?_eq_getElem _⟩
  have HD := Box.mk hd
  have HSD : Box (SmallD d) := ⟨HSM.out d (List.mem_of_getElem? hd)⟩
  clear hd
  have hcase : kk = 0 ∨ kk = 1 ∨ kk = 2 ∨ kk = 3 ∨ kk = 4 ∨ kk = 5 ∨ kk = 6 := by omega
  clear d1 d2
  rcases hcase with rfl | rfl | rfl | rfl | rfl | rfl | rfl
  ·go_enter Tryz.func7, Tryz.ntmps7
   go_upto_region 7 with (first
    | (at_builtin; refine wpList_append_nil _ rfl _ _ 25 rfl 55 j0 _ 10 120 Tryz.underlying25 HJ.out.1 HJ.out.2.1 HJ.out.2.2.1 HJ.out.2.2.2 rfl (by decide) (some ⟨pb, po, none⟩) l.length c ((l.zip cs0).flatMap insL) (R := fun b _ => b < w.heap.size) rfl rfl HSQ.out.1 HSQ.out.2.one (by omega) ?_; intro v9 w9 hown9 hb9; obtain ⟨g, c9, rfl, hg1, hg2, -⟩ := own_open hown9 hpos; have HS : Box (ChS w w9 g c9 (.slice (some ⟨pb, po, none⟩) l.length c) l l) := ⟨⟨hb9, ⟨cs0, hown9, HSQ.out.2.keep (Agree.of_below hb9)⟩, HPL.out.belo hb9, hg1, hg2⟩⟩; clear hown9 hb9 hg1 hg2)
    | (go_at_call 17; (with_reducible refine (CA.out _).mono ?_); rintro e7 w7 ⟨rfl, rfl⟩)
    | (go_at_call 17; (with_reducible refine (CK.out _).mono ?_); rintro e7 w7 ⟨rfl, rfl⟩))
   clear CA CK
   rename World => W
   obtain ⟨_, _, hvf, hc1, hc2⟩ := HS.out.out.formL
   cases hvf
   have hs0 := plan_bot (some ⟨g, 0, none⟩) l.length c9 i (by omega) hc2
   have hs1 := plan_slice (some ⟨pb, po, none⟩) l.length c (i + 1) (by omega) (by omega)
   obtain ⟨ad, had, hadp⟩ : ∃ ad : Addr, (if c = i + 1 then some (⟨pb, po, none⟩ : Addr) else (some (⟨pb, po, none⟩ : Addr)).map (·.add ((i + 1) * 10))) = some ad ∧ (i + 1 < l.length → ad = ⟨pb, po + (i + 1) * 10, none⟩) := by
    by_cases hc : c = i + 1
    ·rw [if_pos hc]; exact ⟨_, rfl, fun h => by omega⟩
    ·rw [if_neg hc]; exact ⟨_, rfl, fun _ => Addr.add_lit ..⟩
   rw [had, show ((i + 1 : Nat) : Int) = (i : Int) + 1 by omega] at hs1
   obtain ⟨cs, hown, hrow⟩ := HS.out.out
   obtain ⟨ds, ⟨hsl, A', c', hv', -, -, hx⟩, hrds⟩ := HS.out.pl.rows
   cases hv'
   obtain ⟨pb', po', hA, -, -, hcl⟩ := hx hpos
   cases hA
   have hdl : ds.length = l.length := hrds.1
   have HOWN : Box (W.drew.ownsRow w.heap.size 55 10 (.slice (some ⟨g, 0, none⟩) i c9) i (((l.zip cs).flatMap insL).take (i * 10))) := ⟨own_below (own_take hown i (by omega)) (bd1 W)⟩
   have HNEWS : Box ((((l.drop (i + 1)).zip (ds.drop (i + 1))).flatMap insL).length = (l.length - (i + 1)) * 10 ∧ ∀ j u, (((l.drop (i + 1)).zip (ds.drop (i + 1))).flatMap insL)[j]? = some u → W.drew.cell? (ad.add j) = some u) := by
    refine ⟨⟨by rw [insL_len _ _ (by rw [List.length_drop, List.length_drop, hdl]), List.length_drop], fun j u hu => ?_⟩⟩
    have hlt : i + 1 < l.length := by
     rcases Nat.lt_or_ge (i + 1) l.length with h | h
     ·exact h
     ·rw [List.drop_eq_nil_of_le h] at hu; simp at hu
    rw [hadp hlt, Addr.add_lit]
    rw [← zip_drop, ← flat_drop insL 10 (fun _ => rfl), List.getElem?_drop] at hu
    have h := hcl _ u hu
    rw [← Nat.add_assoc] at h
    exact h
   have HONE : Box (∀ u ∈ ((l.drop (i + 1)).zip (ds.drop (i + 1))).flatMap insL, u.oneCell' = true) := ⟨(hrds.drop (i + 1)).one⟩
   have HR1 := Box.mk (hrow.take i)
   have HR2 := Box.mk (hrds.drop (i + 1))
   have HLT : Box ((l.take i).length = i ∧ (cs.take i).length = i) := ⟨by rw [List.length_take]; omega, by rw [List.length_take, hrow.1]; omega⟩
   have HTK : Box (((l.zip cs).flatMap insL).take (i * 10) = ((l.take i).zip (cs.take i)).flatMap insL) := ⟨by rw [flat_take insL 10 (fun _ => rfl), zip_take]⟩
   have hwr : IntKind.i64.wrap ((i : Int) + 1) = (i : Int) + 1 := IntWalk.i64_in _ (by omega)
   have hbw := HS.out.below.size
   clear hown hrow hsl hx hcl hadp hrds hdl had
   go_wp2_with fail
   go_region_held3 (fun _ => True) (trivial) ((refine step_append_ownX _ (by rfl) _ _ 25 (by rfl) w.heap.size 55 j0 _ 10 120 Tryz.underlying25 HJ.out.1 HJ.out.2.1 HJ.out.2.2.1 HJ.out.2.2.2 rfl (by decide) (.slice (some ⟨g, 0, none⟩) i c9) i (((l.zip cs).flatMap insL).take (i * 10)) (by rfl) HOWN.out ad (l.length - (i + 1)) (c - (i + 1)) (((l.drop (i + 1)).zip (ds.drop (i + 1))).flatMap insL) (by rfl) HNEWS.out.1 HNEWS.out.2 HONE.out (by unfold maxLen; omega) (by omega) hbw ?_; intro v8 w8 hown8 hgr8; obtain ⟨A8, c8, rfl⟩ := own_form hown8; have HO8 := Box.mk (And.intro hown8 hgr8); clear hown8 hgr8))
   go_wp2_with fail
   go_ret
   have hb8 : Below w.heap.size W w8 := (show Below w.heap.size W W.drew from (bd1 W).mono hbw).grown HO8.out.2 hbw (fun k hk => by simp only [Value.ownBlock, Option.some.injEq] at hk; have := HS.out.hg; omega)
   refine ⟨l.take i ++ l.drop (i + 1), _, rfl, ⟨cs.take i ++ ds.drop (i + 1), ?_, (HR1.out.app HR2.out).keep (Agree.of_lt hb8 fun b _ h => h)⟩, by rw [List.length_append, List.length_take, List.length_drop]; omega, fun e he => ?_, HS.out.below.trans hb8⟩
   ·have h := HO8.out.1
    rw [HTK.out] at h
    rw [List.zip_append (by rw [HLT.out.1, HLT.out.2]), List.flatMap_append, List.length_append, HLT.out.1, List.length_drop]
    exact h
   ·rcases List.mem_append.1 he with h | h
    ·exact HSM.out e (List.mem_of_mem_take h)
    ·exact HSM.out e (List.mem_of_mem_drop h)
  ·go_enter Tryz.func7, Tryz.ntmps7
   go_upto_region 7 with (first
    | (at_builtin; refine wpList_append_nil _ rfl _ _ 25 rfl 55 j0 _ 10 120 Tryz.underlying25 HJ.out.1 HJ.out.2.1 HJ.out.2.2.1 HJ.out.2.2.2 rfl (by decide) (some ⟨pb, po, none⟩) l.length c ((l.zip cs0).flatMap insL) (R := fun b _ => b < w.heap.size) rfl rfl HSQ.out.1 HSQ.out.2.one (by omega) ?_; intro v9 w9 hown9 hb9; obtain ⟨g, c9, rfl, hg1, hg2, -⟩ := own_open hown9 hpos; have HS : Box (ChS w w9 g c9 (.slice (some ⟨pb, po, none⟩) l.length c) l l) := ⟨⟨hb9, ⟨cs0, hown9, HSQ.out.2.keep (Agree.of_below hb9)⟩, HPL.out.belo hb9, hg1, hg2⟩⟩; clear hown9 hb9 hg1 hg2)
    | (go_at_call 17; (with_reducible refine (CA.out _).mono ?_); rintro e7 w7 ⟨rfl, rfl⟩)
    | (go_at_call 17; (with_reducible refine (CK.out _).mono ?_); rintro e7 w7 ⟨rfl, rfl⟩))
   clear CA CK
   rename World => W
   obtain ⟨pb', po', mvx, bvx, hA, -, -, ⟨k0, k1, k2, k3, k4, k5, k6, k7, k8, k9⟩, hxi⟩ := HS.out.pl.at_ i d HD.out
   cases hA
   obtain ⟨X1, x1, rfl, -⟩ := hxi.ms.form
   obtain ⟨X2, x2, rfl, -⟩ := hxi.bys.form
   obtain ⟨cs, hown, hrow⟩ := HS.out.out
   have HM := Box.mk (And.intro hown (And.intro hrow hxi))
   have hbw := HS.out.below.size
   clear hown hrow hxi
   go_wp2_with (at_builtin; refine wpList_append_own _ rfl _ _ 25 rfl w.heap.size 55 j0 _ 10 120 Tryz.underlying25 HJ.out.1 HJ.out.2.1 HJ.out.2.2.1 HJ.out.2.2.2 rfl (by decide) (.slice (some ⟨g, 0, none⟩) l.length c9) l.length ((l.zip cs).flatMap insL) rfl (own_below HM.out.1 (bel1 _ _)) ⟨W.heap.size, 0, none⟩ 1 1 (insL (d, .slice X1 d.ms.length x1, .slice X2 d.bys.length x2)) rfl rfl (World.news_of_block (Blk.new _ _ _)) (ins_one _ ⟨_, _, _, rfl⟩ ⟨_, _, _, rfl⟩) (by unfold maxLen; omega) (by omega) (by simp; omega) ?_; intro v8 w8 hown8 hgr8 hnil8; obtain ⟨A8, c8, rfl⟩ := own_form hown8; have HO8 := Box.mk (And.intro hown8 hgr8); clear hown8 hgr8 hnil8)
   go_ret
   have hb8 : Below w.heap.size W w8 := ((bel1 W _).mono hbw).grown HO8.out.2 (by simp; omega) (fun k hk => by simp only [Value.ownBlock, Option.some.injEq] at hk; have := HS.out.hg; omega)
   exact ⟨l ++ [d], _, rfl, PlW.snoc HM.out.2.1 HM.out.2.2 HO8.out.1 (Agree.of_lt hb8 fun b _ h => h), by simp, fun e he => by
    rcases List.mem_append.1 he with h | h
    ·exact HSM.out e h
    ·simp only [List.mem_singleton] at h; subst h; exact HSD.out, HS.out.below.trans hb8⟩
  ·go_enter Tryz.func7, Tryz.ntmps7
   go_upto_region 7 with (first
    | (at_builtin; refine wpList_append_nil _ rfl _ _ 25 rfl 55 j0 _ 10 120 Tryz.underlying25 HJ.out.1 HJ.out.2.1 HJ.out.2.2.1 HJ.out.2.2.2 rfl (by decide) (some ⟨pb, po, none⟩) l.length c ((l.zip cs0).flatMap insL) (R := fun b _ => b < w.heap.size) rfl rfl HSQ.out.1 HSQ.out.2.one (by omega) ?_; intro v9 w9 hown9 hb9; obtain ⟨g, c9, rfl, hg1, hg2, -⟩ := own_open hown9 hpos; have HS : Box (ChS w w9 g c9 (.slice (some ⟨pb, po, none⟩) l.length c) l l) := ⟨⟨hb9, ⟨cs0, hown9, HSQ.out.2.keep (Agree.of_below hb9)⟩, HPL.out.belo hb9, hg1, hg2⟩⟩; clear hown9 hb9 hg1 hg2)
    | (go_at_call 17; (with_reducible refine (CA.out _).mono ?_); rintro e7 w7 ⟨rfl, rfl⟩)
    | (go_at_call 17; (with_reducible refine (CK.out _).mono ?_); rintro e7 w7 ⟨rfl, rfl⟩))
   clear CA CK
   rename World => W
   by_cases hi1 : i + 1 < l.length
   ·obtain ⟨d2, hd2⟩ : ∃ d2, l[i + 1]? = some d2 := ⟨l[i + 1], List.getElem?_eq_getElem _⟩
    have hi2 : (i : Int) + 1 < (l.length : Int) := by omega
    obtain ⟨pb', po', mvx, bvx, hA, -, -, ⟨k0, k1, k2, k3, k4, k5, k6, k7, k8, k9⟩, hxi⟩ := HS.out.pl.at_ (i + 1) d2 hd2
    cases hA
    obtain ⟨X1, x1, rfl, -⟩ := hxi.ms.form
    obtain ⟨X2, x2, rfl, -⟩ := hxi.bys.form
    obtain ⟨mv0, bv0, ⟨y0, y1, y2, y3, y4, y5, y6, y7, y8, y9⟩, -, hfz⟩ := HS.out.out.cells HD.out
    have HP1 := Box.mk (PlW.put HS.out.out rfl HD.out hxi (fun b e h => Nat.lt_of_lt_of_le h HS.out.hg) HS.out.hg)
    have HS2 : Box (ChS w (put10 W g (i * 10) (.int .i64 d2.kind) (.int .i64 d2.fn) (.int .i64 d2.win) (.int .i64 d2.off) (.int .i64 d2.k) (.int .i64 d2.num) (.int .i64 d2.den) (.string d2.name) (.slice X1 d2.ms.length x1) (.slice X2 d2.bys.length x2)) g c9 (.slice (some ⟨pb, po, none⟩) l.length c) l (l.set i d2)) := ⟨HS.out.below.trans (HP1.out.2.mono HS.out.hg), by rw [List.length_set]; exact HP1.out.1, HS.out.pl.keep (Agree.of_lt HP1.out.2 fun b _ h => Nat.lt_of_lt_of_le h HS.out.hg), HS.out.hg, Nat.lt_of_lt_of_le HS.out.hlt HP1.out.2.size⟩
    have HD2 := Box.mk hd2
    have HSD2 : Box (SmallD d2) := ⟨HSM.out d2 (List.mem_of_getElem? hd2)⟩
    clear hd2 hxi HP1
    go_upto_region 13 with (fail)
    show Code.wp _ _ _ _ (put10 W g (i * 10) (.int .i64 d2.kind) (.int .i64 d2.fn) (.int .i64 d2.win) (.int .i64 d2.off) (.int .i64 d2.k) (.int .i64 d2.num) (.int .i64 d2.den) (.string d2.name) (.slice X1 d2.ms.length x1) (.slice X2 d2.bys.length x2))
    generalize (put10 W g (i * 10) (.int .i64 d2.kind) (.int .i64 d2.fn) (.int .i64 d2.win) (.int .i64 d2.off) (.int .i64 d2.k) (.int .i64 d2.num) (.int .i64 d2.den) (.string d2.name) (.slice X1 d2.ms.length x1) (.slice X2 d2.bys.length x2)) = W2 at HS2 ⊢
    clear HS k0 k1 k2 k3 k4 k5 k6 k7 k8 k9 y0 y1 y2 y3 y4 y5 y6 y7 y8 y9 hfz
    obtain ⟨pb', po', mvx, bvx, hA, -, -, ⟨k0, k1, k2, k3, k4, k5, k6, k7, k8, k9⟩, hxi⟩ := HS2.out.pl.at_ i d HD.out
    cases hA
    obtain ⟨Y1, z1, rfl, -⟩ := hxi.ms.form
    obtain ⟨Y2, z2, rfl, -⟩ := hxi.bys.form
    have hd3 : (l.set i d2)[i + 1]? = some d2 := by rw [List.getElem?_set_ne (by omega)]; exact HD2.out
    obtain ⟨mv0, bv0, ⟨y0, y1, y2, y3, y4, y5, y6, y7, y8, y9⟩, -, hfz⟩ := HS2.out.out.cells hd3
    have HP1 := Box.mk (PlW.put (i := i + 1) HS2.out.out rfl hd3 hxi (fun b e h => Nat.lt_of_lt_of_le h HS2.out.hg) HS2.out.hg)
    have HB2 : Box (Below w.heap.size w (put10 W2 g ((i + 1) * 10) (.int .i64 d.kind) (.int .i64 d.fn) (.int .i64 d.win) (.int .i64 d.off) (.int .i64 d.k) (.int .i64 d.num) (.int .i64 d.den) (.string d.name) (.slice Y1 d.ms.length z1) (.slice Y2 d.bys.length z2))) := ⟨HS2.out.below.trans (HP1.out.2.mono HS2.out.hg)⟩
    clear hd3 hxi
    go_wp2_with fail
    go_ret
    refine ⟨(l.set i d2).set (i + 1) d, .slice (some ⟨g, 0, none⟩) l.length c9, rfl, ?_, by simp, small_set (small_set HSM.out HSD2.out) HSD.out, HB2.out⟩
    have h := HP1.out.1
    rw [List.length_set] at h
    exact h
   ·have hi2 : ¬ (i : Int) + 1 < (l.length : Int) := by omega
    go_wp2_with fail
    go_ret
    exact ⟨l, _, rfl, HS.out.out, by omega, HSM.out, HS.out.below⟩
  ·go_enter Tryz.func7, Tryz.ntmps7
   go_upto_region 7 with (first
    | (at_builtin; refine wpList_append_nil _ rfl _ _ 25 rfl 55 j0 _ 10 120 Tryz.underlying25 HJ.out.1 HJ.out.2.1 HJ.out.2.2.1 HJ.out.2.2.2 rfl (by decide) (some ⟨pb, po, none⟩) l.length c ((l.zip cs0).flatMap insL) (R := fun b _ => b < w.heap.size) rfl rfl HSQ.out.1 HSQ.out.2.one (by omega) ?_; intro v9 w9 hown9 hb9; obtain ⟨g, c9, rfl, hg1, hg2, -⟩ := own_open hown9 hpos; have HS : Box (ChS w w9 g c9 (.slice (some ⟨pb, po, none⟩) l.length c) l l) := ⟨⟨hb9, ⟨cs0, hown9, HSQ.out.2.keep (Agree.of_below hb9)⟩, HPL.out.belo hb9, hg1, hg2⟩⟩; clear hown9 hb9 hg1 hg2)
    | (go_at_call 17; (with_reducible refine (CA.out _).mono ?_); rintro e7 w7 ⟨rfl, rfl⟩)
    | (go_at_call 17; (with_reducible refine (CK.out _).mono ?_); rintro e7 w7 ⟨rfl, rfl⟩))
   clear CA CK
   rename World => W
   obtain ⟨mv0, bv0, hcel, -, hfz⟩ := HS.out.out.cells HD.out
   have hcj := hcel.1
   clear hcel
   have HP1 := Box.mk (PlW.put1 (j := 0) (u := .int .i64 v) (d' := { d with kind := v }) HS.out.out rfl HD.out (fun mv bv h => ⟨⟨⟨HV.out, h.ok.ints.2⟩, h.ok.name, h.ok.ms, h.ok.bys⟩, h.ms, h.bys⟩) (fun mv bv => rfl) (by decide) (fun b e h => Nat.lt_of_lt_of_le h HS.out.hg) HS.out.hg)
   go_wp2_with fail
   go_ret
   exact ⟨l.set i { d with kind := v }, _, rfl, HP1.out.1, by simp, small_set HSM.out HSD.out, HS.out.below.trans (HP1.out.2.mono HS.out.hg)⟩
  ·go_enter Tryz.func7, Tryz.ntmps7
   go_upto_region 7 with (first
    | (at_builtin; refine wpList_append_nil _ rfl _ _ 25 rfl 55 j0 _ 10 120 Tryz.underlying25 HJ.out.1 HJ.out.2.1 HJ.out.2.2.1 HJ.out.2.2.2 rfl (by decide) (some ⟨pb, po, none⟩) l.length c ((l.zip cs0).flatMap insL) (R := fun b _ => b < w.heap.size) rfl rfl HSQ.out.1 HSQ.out.2.one (by omega) ?_; intro v9 w9 hown9 hb9; obtain ⟨g, c9, rfl, hg1, hg2, -⟩ := own_open hown9 hpos; have HS : Box (ChS w w9 g c9 (.slice (some ⟨pb, po, none⟩) l.length c) l l) := ⟨⟨hb9, ⟨cs0, hown9, HSQ.out.2.keep (Agree.of_below hb9)⟩, HPL.out.belo hb9, hg1, hg2⟩⟩; clear hown9 hb9 hg1 hg2)
    | (go_at_call 17; (with_reducible refine (CA.out _).mono ?_); rintro e7 w7 ⟨rfl, rfl⟩)
    | (go_at_call 17; (with_reducible refine (CK.out _).mono ?_); rintro e7 w7 ⟨rfl, rfl⟩))
   clear CA CK
   rename World => W
   obtain ⟨mv0, bv0, hcel, -, hfz⟩ := HS.out.out.cells HD.out
   have hcj := hcel.2.1
   clear hcel
   have HP1 := Box.mk (PlW.put1 (j := 1) (u := .int .i64 v) (d' := { d with fn := v }) HS.out.out rfl HD.out (fun mv bv h => ⟨⟨⟨h.ok.ints.1, HV.out, h.ok.ints.2.2⟩, h.ok.name, h.ok.ms, h.ok.bys⟩, h.ms, h.bys⟩) (fun mv bv => rfl) (by decide) (fun b e h => Nat.lt_of_lt_of_le h HS.out.hg) HS.out.hg)
   go_wp2_with fail
   go_ret
   exact ⟨l.set i { d with fn := v }, _, rfl, HP1.out.1, by simp, small_set HSM.out HSD.out, HS.out.below.trans (HP1.out.2.mono HS.out.hg)⟩
  ·go_enter Tryz.func7, Tryz.ntmps7
   go_upto_region 7 with (first
    | (at_builtin; refine wpList_append_nil _ rfl _ _ 25 rfl 55 j0 _ 10 120 Tryz.underlying25 HJ.out.1 HJ.out.2.1 HJ.out.2.2.1 HJ.out.2.2.2 rfl (by decide) (some ⟨pb, po, none⟩) l.length c ((l.zip cs0).flatMap insL) (R := fun b _ => b < w.heap.size) rfl rfl HSQ.out.1 HSQ.out.2.one (by omega) ?_; intro v9 w9 hown9 hb9; obtain ⟨g, c9, rfl, hg1, hg2, -⟩ := own_open hown9 hpos; have HS : Box (ChS w w9 g c9 (.slice (some ⟨pb, po, none⟩) l.length c) l l) := ⟨⟨hb9, ⟨cs0, hown9, HSQ.out.2.keep (Agree.of_below hb9)⟩, HPL.out.belo hb9, hg1, hg2⟩⟩; clear hown9 hb9 hg1 hg2)
    | (go_at_call 17; (with_reducible refine (CA.out _).mono ?_); rintro e7 w7 ⟨rfl, rfl⟩)
    | (go_at_call 17; (with_reducible refine (CK.out _).mono ?_); rintro e7 w7 ⟨rfl, rfl⟩))
   clear CA CK
   rename World => W
   obtain ⟨mv0, bv0, hcel, -, hfz⟩ := HS.out.out.cells HD.out
   have hcj := hcel.2.2.2.2.1
   clear hcel
   have HP1 := Box.mk (PlW.put1 (j := 4) (u := .int .i64 v) (d' := { d with k := v }) HS.out.out rfl HD.out (fun mv bv h => ⟨⟨⟨h.ok.ints.1, h.ok.ints.2.1, h.ok.ints.2.2.1, h.ok.ints.2.2.2.1, HV.out, h.ok.ints.2.2.2.2.2⟩, h.ok.name, h.ok.ms, h.ok.bys⟩, h.ms, h.bys⟩) (fun mv bv => rfl) (by decide) (fun b e h => Nat.lt_of_lt_of_le h HS.out.hg) HS.out.hg)
   go_wp2_with fail
   go_ret
   exact ⟨l.set i { d with k := v }, _, rfl, HP1.out.1, by simp, small_set HSM.out HSD.out, HS.out.below.trans (HP1.out.2.mono HS.out.hg)⟩
  ·go_enter Tryz.func7, Tryz.ntmps7
   go_upto_region 7 with (first
    | (at_builtin; refine wpList_append_nil _ rfl _ _ 25 rfl 55 j0 _ 10 120 Tryz.underlying25 HJ.out.1 HJ.out.2.1 HJ.out.2.2.1 HJ.out.2.2.2 rfl (by decide) (some ⟨pb, po, none⟩) l.length c ((l.zip cs0).flatMap insL) (R := fun b _ => b < w.heap.size) rfl rfl HSQ.out.1 HSQ.out.2.one (by omega) ?_; intro v9 w9 hown9 hb9; obtain ⟨g, c9, rfl, hg1, hg2, -⟩ := own_open hown9 hpos; have HS : Box (ChS w w9 g c9 (.slice (some ⟨pb, po, none⟩) l.length c) l l) := ⟨⟨hb9, ⟨cs0, hown9, HSQ.out.2.keep (Agree.of_below hb9)⟩, HPL.out.belo hb9, hg1, hg2⟩⟩; clear hown9 hb9 hg1 hg2)
    | (go_at_call 17; (with_reducible refine (CA.out _).mono ?_); rintro e7 w7 ⟨rfl, rfl⟩)
    | (go_at_call 17; (with_reducible refine (CK.out _).mono ?_); rintro e7 w7 ⟨rfl, rfl⟩))
   clear CA CK
   rename World => W
   obtain ⟨mv0, bv0, hcel, -, hfz⟩ := HS.out.out.cells HD.out
   have hcj := hcel.2.2.1
   clear hcel
   have HP1 := Box.mk (PlW.put1 (j := 2) (u := .int .i64 v) (d' := { d with win := v }) HS.out.out rfl HD.out (fun mv bv h => ⟨⟨⟨h.ok.ints.1, h.ok.ints.2.1, HV.out, h.ok.ints.2.2.2⟩, h.ok.name, h.ok.ms, h.ok.bys⟩, h.ms, h.bys⟩) (fun mv bv => rfl) (by decide) (fun b e h => Nat.lt_of_lt_of_le h HS.out.hg) HS.out.hg)
   go_wp2_with fail
   go_ret
   exact ⟨l.set i { d with win := v }, _, rfl, HP1.out.1, by simp, small_set HSM.out HSD.out, HS.out.below.trans (HP1.out.2.mono HS.out.hg)⟩
end
end Go.Proofs.YtpgdijbfkahepaaGreatDoor
