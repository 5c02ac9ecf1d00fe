/- Contracts, packed: Ak Aj Al. -/
import Derived.Test.YtipafbppaaflcaaDoorPl51
import Derived.Test.YtipafbppaaflcaaDoorPl50
import Derived.Test.YtipafbppaaflcaaDoorPl48
import Derived.Test.YtipafbppaaflcaaDoorPl34
set_option linter.unusedVariables false
set_option linter.unusedSimpArgs false
namespace Go.Proofs.YtipafbppaaflcaaDoor
section
open Go.RowKit
theorem ret_str {a b : ByteArray} (h : a = b) : Ending.returned (.string a) = .returned (.string b) := by rw [h]
/-- 'Short': the first bytes of a string. -/
def short (s : ByteArray) (most : Nat) : ByteArray := if most < s.size then s.extract 0 most else s
theorem short_any (s : ByteArray) (most : Nat) (w : World) (hs : s.size ≤ maxLen) (h1 : most ≤ 1000) :
    Calls Tryd.prog 37 #[.string s, .int .i64 most] w fun e w' => e = .returned (.string (short s most)) ∧ w = w' := by
  unfold maxLen at hs
  by_cases h : most < s.size
  · have e : short s most = s.extract 0 most := if_pos h
    have E := Lib.hid e; clear e
    go_enter Tryd.func37, Tryd.ntmps37
    go_wp2
    go_ret
    exact ⟨ret_str (by rw [E.out]), rfl⟩
  · have e : short s most = s := if_neg h
    have E := Lib.hid e; clear e
    go_enter Tryd.func37, Tryd.ntmps37
    go_wp2
    go_ret
    exact ⟨ret_str (by rw [E.out]), rfl⟩
theorem short_size (s : ByteArray) (most : Nat) : (short s most).size ≤ most := by
  unfold short; split
  · simp [ByteArray.size_extract]; omega
  · omega

theorem eqT_refl (t : Tree) : eqT t t = true := (eqT_iff t t).2 rfl
end
section
open Go.RowKit FracM

theorem own_lt {w w' : World} {B X t size n : Nat} {v : Value} {xs : List Value} (h : w.ownsRow B t size v n xs) (hb : Below X w w') (hv : ∀ g, v.ownBlock = some g → g < X) : w'.ownsRow B t size v n xs := by
  refine ⟨h.1, ?_⟩
  rcases h.2 with h0 | ⟨g, c, cur, rfl, hg, hh, rest⟩
  · exact .inl h0
  · exact .inr ⟨g, c, cur, rfl, hg, (hb.block g (hv g rfl)).trans hh, rest⟩
theorem PlW.keepX {w w' : World} {B X : Nat} {P : Nat → Nat → Prop} {v : Value} {l : List Nd} (h : PlW w B P v l) (hb : Below X w w') (hP : ∀ b e, P b e → b < X) (hv : ∀ g, v.ownBlock = some g → g < X) : PlW w' B P v l := by
  obtain ⟨cs, h1, h2⟩ := h
  exact ⟨cs, own_lt h1 hb hv, h2.keep (Agree.of_lt hb hP)⟩
theorem PlW.bk {w : World} {B : Nat} {P : Nat → Nat → Prop} {v : Value} {l : List Nd} (h : PlW w B P v l) : ∀ g, v.ownBlock = some g → B ≤ g ∧ g < w.heap.size := by
  obtain ⟨cs, h1, -⟩ := h
  exact own_bk h1
theorem SeqP.matP {w : World} {P : Nat → Nat → Prop} {A : Option Addr} {n c : Nat} {l : List Mat} (h : SeqP w P 3 (.slice A n c) n (l.flatMap matCells)) (k : Nat) (x : Mat) (hx : l[k]? = some x) :
    ∃ b off, A = some ⟨b, off, none⟩ ∧ (∃ z, P b z) ∧ w.cell? ⟨b, off + k * 3, none⟩ = some (.string x.1) ∧ w.cell? ⟨b, off + k * 3 + 1, none⟩ = some (.int .i64 x.2.1) ∧ w.cell? ⟨b, off + k * 3 + 2, none⟩ = some (.string x.2.2) := by
  obtain ⟨b, off, h1, h2, h3, h4⟩ := h.mat k x hx
  refine ⟨b, off, h1, ?_, h2, h3, h4⟩
  have hk := (List.getElem?_eq_some_iff.1 hx).1
  obtain ⟨hl, A', c', hv, -, -, h5⟩ := h
  cases hv
  have hn : 0 < n := by
    rcases Nat.eq_zero_or_pos n with h0 | h0
    · subst h0
      rw [flat_len matCells 3 (fun _ => rfl)] at hl
      omega
    · exact h0
  obtain ⟨b', off', hA, -, hp, -⟩ := h5 hn
  rw [h1] at hA
  cases hA
  exact ⟨_, hp⟩
/-- the instructions so far -/
structure FwO (w W : World) (pv : Value) (l : List Nd) (vo : Value) (m : List Nd) : Prop where
  below : Below w.heap.size w W
  pl : PlanP W (fun b _ => b < w.heap.size) pv l
  out : PlW W w.heap.size (fun b _ => vo.ownBlock ≠ some b) vo m
/-- and the instruction that is being made -/
structure FwX (w W : World) (xb : Nat) (pv : Value) (l : List Nd) (vo : Value) (m : List Nd) (d : Nd) (mv bv : Value) : Prop where
  below : Below w.heap.size w W
  pl : PlanP W (fun b _ => b < w.heap.size) pv l
  out : PlW W w.heap.size (fun b _ => vo.ownBlock ≠ some b ∧ b < xb) vo m
  obk : ∀ g, vo.ownBlock = some g → g < xb
  x : Blk W xb 45 (insC d mv bv)
  hx : w.heap.size ≤ xb
theorem FwO.new {w W W' : World} {pv vo mv bv : Value} {l m : List Nd} {d : Nd} (h : FwO w W pv l vo m) (hb : Below W.heap.size W W') (hx : Blk W' W.heap.size 45 (insC d mv bv)) : FwX w W' W.heap.size pv l vo m d mv bv :=
  ⟨bthen h.below hb (Nat.le_refl _), h.pl.belo hb, (h.out.mono (Q := fun b _ => vo.ownBlock ≠ some b ∧ b < W.heap.size) fun b e h1 h2 => ⟨h2, h1⟩).keepX hb (fun b e h => h.2) (fun g hg => (h.out.bk g hg).2), fun g hg => (h.out.bk g hg).2, hx, h.below.size⟩
theorem FwX.turn' {w W W' : World} {xb : Nat} {pv vo mv bv mv' bv' : Value} {l m : List Nd} {d d' : Nd} (h : FwX w W xb pv l vo m d mv bv) (hb : Below xb W W') (hx : Blk W' xb 45 (insC d' mv' bv')) : FwX w W' xb pv l vo m d' mv' bv' :=
  ⟨h.below.trans (hb.mono h.hx), h.pl.keep (Agree.of_lt hb fun b e h1 => Nat.lt_of_lt_of_le h1 h.hx), h.out.keepX hb (fun b e h => h.2) h.obk, h.obk, hx, h.hx⟩
theorem FwX.turn {w W W' : World} {xb : Nat} {pv vo mv bv mv' bv' : Value} {l m : List Nd} {d : Nd} (h : FwX w W xb pv l vo m d mv bv) (hb : Below xb W W') (hx : Blk W' xb 45 (insC d mv' bv')) : FwX w W' xb pv l vo m d mv' bv' := h.turn' hb hx
theorem FwX.push {w W W9 : World} {xb g9 cap9 : Nat} {pv vo mv bv : Value} {l m : List Nd} {d d' : Nd} {cs : List Sl2} {o : Obj} (h : FwX w W xb pv l vo m d mv bv) (hrow : InsRows W (fun b _ => vo.ownBlock ≠ some b ∧ b < xb) m cs) (hI : InsAt W (fun b _ => xb < b) d' mv bv)
    (hown : W9.ownsRow w.heap.size 45 10 (.slice (some ⟨g9, 0, none⟩) (m.length + 1) cap9) (m.length + 1) ((m.zip cs).flatMap insL ++ insL (d', mv, bv)))
    (hgr : (W.alloc o).grownBy W9 vo.ownBlock) (hat : vo.ownBlock = some g9 ∨ g9 = W.heap.size + 1) : FwO w W9 pv l (.slice (some ⟨g9, 0, none⟩) (m.length + 1) cap9) (m ++ [d']) := by
  have hbk := h.out.bk
  have hz := h.below.size
  have hs9 := hgr.size
  simp at hs9
  have same : ∀ b, b < W.heap.size → vo.ownBlock ≠ some b → W9.heap[b]? = W.heap[b]? := fun b hb hn => by
    rw [hgr.block b (by simp; omega) (fun e => hn e.symm)]
    exact (bel1 W o).block b hb
  have B9 : Below w.heap.size W W9 := ⟨hgr.os, hgr.tape, hgr.output, by omega, fun k hk => same k (by omega) (fun e => by have := (hbk k e).1; omega)⟩
  refine ⟨h.below.trans B9, h.pl.keep (Agree.of_lt B9 fun _ _ h => h), ?_⟩
  have hf : Agree (fun b _ => vo.ownBlock ≠ some b ∧ b < W.heap.size) W W9 := ⟨by omega, fun b e o' hp hb ho => World.cell?_of_block (a := ⟨b, o', none⟩) (same b hb hp.1)⟩
  have hr := hrow.mono (Q := fun b _ => vo.ownBlock ≠ some b ∧ b < W.heap.size) fun b e hb hp => ⟨hp.1, hb⟩
  have hi := hI.mono (Q := fun b _ => vo.ownBlock ≠ some b ∧ b < W.heap.size) fun b e hb hp => ⟨fun e => by have := h.obk b e; omega, hb⟩
  refine (PlW.snoc hr hi hown hf).mono fun b e _ hp => ?_
  intro hc
  simp [Value.ownBlock] at hc
  subst hc
  rcases hat with hat | hat
  · exact hp.1 hat
  · have := hp.2; omega
theorem fw_step {wr w8 : World} {B n t size : Nat} {v : Value} {xs : List Value} {o : Obj} (hB : B ≤ wr.heap.size) (hown : wr.ownsRow B t size v n xs) (hgr : (wr.drew.alloc o).grownBy w8 v.ownBlock) : Below B wr w8 :=
  (((bd1 wr).trans (bel1 wr.drew o)).mono hB).grown hgr (by rw [World.size_alloc]; exact Nat.le_succ_of_le hB) (fun k hk => (own_bk hown k hk).1)
def RetFew (w : World) (e : Ending) (w' : World) : Prop := ∃ m v', e = .returned v' ∧ PlanP w' AnyP v' m ∧ m.length ≤ 12 ∧ (∀ d ∈ m, SmallD d) ∧ Below w.heap.size w w'
set_option maxHeartbeats 16000000 in
set_option maxRecDepth 100000 in
theorem rfew_any (l : List Nd) (pv : Value) (w : World) (hp : PlanP w AnyP pv l) : Calls Tryd.prog 14 #[pv] w (RetFew w) := by
  obtain ⟨A, c, rfl, -⟩ := hp.form
  have H0 : Box (FwO w w (.slice A l.length c) l (.slice none 0 0) []) := ⟨Below.refl _ _, hp.mono fun _ _ hb _ => hb, PlW.nil _ _ _⟩
  clear hp
  obtain ⟨i0, hi, hz0, hz1, hz2⟩ := info_parts insInfo
  have HII := Box.mk (And.intro hi (And.intro hz0 (And.intro hz1 hz2)))
  clear hi hz0 hz1 hz2
  obtain ⟨j0, hi, hz0, hz1, hz2⟩ := info_parts matInfo
  have HJ := Box.mk (And.intro hi (And.intro hz0 (And.intro hz1 hz2)))
  clear hi hz0 hz1 hz2
  obtain ⟨s0, hi, hz0, hz1, hz2⟩ := info_parts strInfo
  have HSI := Box.mk (And.intro hi (And.intro hz0 (And.intro hz1 hz2)))
  clear hi hz0 hz1 hz2
  go_enter Tryd.func14, Tryd.ntmps14
  go_wp2_with fail
  go_loopw [3, 4] (fun o v wr => ∃ (k : Nat) (m : List Nd), k ≤ l.length ∧ k ≤ 12 ∧ v = .int .i64 (k : Nat) ∧ Box (m.length = k) ∧ Box (FwO w wr (.slice A l.length c) l o m) ∧ Box (∀ d ∈ m, SmallD d)) (fun _ v _ => l.length - (intOf v).toNat)
  case atStart => exact ⟨0, [], by omega, by omega, rfl, ⟨rfl⟩, H0, ⟨fun d h => by simp at h⟩⟩
  case round =>
    clear H0
    obtain ⟨k, m, hk, hk12, rfl, HK, HS, HSM⟩ := hrel
    obtain ⟨hmk⟩ := HK
    subst hmk
    obtain ⟨AO, co, rfl, -⟩ := HS.out.out.formL
    by_cases hlt : m.length < l.length
    · have hlt2 : (m.length : Int) < (l.length : Int) := by omega
      by_cases hk4 : m.length < 12
      · have hk5 : (m.length : Int) < 12 := by omega
        obtain ⟨d, hd⟩ : ∃ d, l[m.length]? = some d := ⟨l[m.length], List.getElem?_eq_getElem _⟩
        obtain ⟨pb, po, mv0, bv0, hA, hpb, ⟨zpb, hpw⟩, ⟨p0, p1, p2, p3, p4, p5, p6, p7, p8, p9⟩, hxi⟩ := HS.out.pl.at_ m.length d hd
        cases hA
        obtain ⟨X1, x1, rfl, -⟩ := hxi.ms.form
        obtain ⟨X2, x2, rfl, -⟩ := hxi.bys.form
        have HD := Box.mk hd
        have HOK := Box.mk hxi.ok
        have hnm : d.name.size ≤ maxLen := HOK.out.name
        clear hd hxi
        have HX0 : Box (FwX w (wr.alloc (.cells #[.int .i64 d.kind, .int .i64 d.fn, .int .i64 d.win, .int .i64 d.off, .int .i64 d.k, .int .i64 d.num, .int .i64 d.den, .string (short d.name 20), .slice none 0 0, .slice X2 d.bys.length x2] 45)) wr.heap.size (.slice (some ⟨pb, po, none⟩) l.length c) l (.slice AO m.length co) m { d with name := short d.name 20 } (.slice none 0 0) (.slice X2 d.bys.length x2)) := ⟨HS.out.new (bel1 _ _) (Blk.new _ _ _)⟩
        have HDN : Box (NdOk { d with name := short d.name 20 } ∧ (∀ x ∈ d.ms, x.1.size ≤ maxLen ∧ x.2.2.size ≤ maxLen) ∧ (∀ s ∈ d.bys, s.size ≤ maxLen)) := ⟨⟨HOK.out.ints, by have := short_size d.name 20; show (short d.name 20).size ≤ _; unfold maxLen; omega, HOK.out.ms, HOK.out.bys⟩, HOK.out.ms, HOK.out.bys⟩
        clear HOK
        go_upto_region 8 with (go_at_call 37; refine (short_any d.name 20 _ hnm (by omega)).mono ?_; rintro e7 w7 ⟨rfl, rfl⟩)
        clear p0 p1 p2 p3 p4 p5 p6 p7 p8 p9 hnm hpb
        generalize (wr.alloc (.cells #[.int .i64 d.kind, .int .i64 d.fn, .int .i64 d.win, .int .i64 d.off, .int .i64 d.k, .int .i64 d.num, .int .i64 d.den, .string (short d.name 20), .slice none 0 0, .slice X2 d.bys.length x2] 45)) = wz at HX0 ⊢
        generalize { d with name := short d.name 20 } = dn at HX0 HDN
        clear HS
        obtain ⟨xb, hxb⟩ : ∃ x, wr.heap.size = x := ⟨_, rfl⟩
        rw [hxb] at HX0 ⊢
        clear hxb
        have HXR : Box (wz.ownsRow (xb + 1) 71 3 (.slice none 0 0) 0 ((d.ms.take 0).flatMap matCells) ∧ xb + 1 ≤ wz.heap.size) := ⟨World.ownsRow_nil _ _ _ _, HX0.out.x.lt⟩
        go_wp2_with fail
        go_loopw [6] (fun v wq => ∃ (j : Nat) (J1 : Option Addr) (j1 : Nat) (Z2 : Option Addr) (z2 z3 : Nat), j ≤ d.ms.length ∧ j ≤ 3 ∧ v = .int .i64 (j : Nat) ∧ Box (FwX w wq xb (.slice (some ⟨pb, po, none⟩) l.length c) l (.slice AO m.length co) m dn (.slice J1 j j1) (.slice Z2 z2 z3) ∧ wq.ownsRow (xb + 1) 71 3 (.slice J1 j j1) j ((d.ms.take j).flatMap matCells) ∧ xb + 1 ≤ wq.heap.size)) (fun v _ => 3 - (intOf v).toNat)
        case atStart => exact ⟨0, none, 0, X2, d.bys.length, x2, by omega, by omega, rfl, ⟨HX0.out, HXR.out.1, HXR.out.2⟩⟩
        case round =>
          clear HX0 HXR
          rename World => wq
          obtain ⟨j, J1, j1, Z2, z2, z3, hj, hj3, rfl, HX⟩ := hrel
          obtain ⟨pb', po', mvx, bvx, hA, hpb, ⟨zpb, hpw⟩, ⟨p0, p1, p2, p3, p4, p5, p6, p7, p8, p9⟩, hxi⟩ := HX.out.1.pl.at_ m.length d HD.out
          cases hA
          obtain ⟨Y1, y1, rfl, -⟩ := hxi.ms.form
          obtain ⟨Y2, y2, rfl, -⟩ := hxi.bys.form
          obtain ⟨k0, k1, k2, k3, k4, k5, k6, k7, k8, k9⟩ := blk10z HX.out.1.x
          have kf := HX.out.1.x.frozen
          have hxl := HX.out.1.x.lt
          go_upto_region 9 with (fail)
          go_cut [38] (fun v wx => v = .bool (decide (j < d.ms.length ∧ j < 3)) ∧ wq = wx)
          case first =>
            by_cases hlt : j < d.ms.length
            · have hlt2 : (j : Int) < (d.ms.length : Int) := by omega
              by_cases h3 : j < 3
              · have h32 : (j : Int) < 3 := by omega
                go_wp2_with fail
                go_meet
                exact ⟨by simp [hlt, h3], rfl⟩
              · have h32 : ¬ (j : Int) < 3 := by omega
                go_wp2_with fail
                go_meet
                exact ⟨by simp [hlt, h3], rfl⟩
            · have hlt2 : ¬ (j : Int) < (d.ms.length : Int) := by omega
              go_wp2_with fail
              go_meet
              exact ⟨by simp [hlt], rfl⟩
          case rest =>
            obtain ⟨rfl, hwx⟩ := hcut
            subst hwx
            by_cases hc : j < d.ms.length ∧ j < 3
            · have hd := decide_eq_true hc
              obtain ⟨hc1, hc2⟩ := hc
              generalize decide (j < d.ms.length ∧ j < 3) = qk at hd ⊢
              subst hd
              have hjl : (j : Int) < (d.ms.length : Int) := by omega
              obtain ⟨x, hx⟩ : ∃ x, d.ms[j]? = some x := ⟨d.ms[j]'(by omega), List.getElem?_eq_getElem _⟩
              obtain ⟨mb, mo, hM, ⟨zp, hmb⟩, q0, q1, q2⟩ := hxi.ms.matP j x hx
              cases hM
              have HTK : Box ((d.ms.take (j + 1)).flatMap matCells = ((d.ms.take j).flatMap matCells) ++ matCells x) := ⟨by rw [List.take_add_one, hx]; simp [matCells]⟩
              clear hx
              go_wp2_with fail
              refine wp_region_T (S := fun w' => w'.cell? ⟨xb, 8, none⟩ = some (.slice J1 j j1) ∧ w'.cell? ⟨pb, po + m.length * 10 + 8, none⟩ = some (.slice (some ⟨mb, mo, none⟩) d.ms.length y1) ∧ w'.cell? ⟨mb, mo + j * 3, none⟩ = some (.string x.1) ∧ w'.cell? ⟨mb, mo + j * 3 + 1, none⟩ = some (.int .i64 x.2.1) ∧ w'.cell? ⟨mb, mo + j * 3 + 2, none⟩ = some (.string x.2.2)) 13 (by kernel_rfl) (by exact ⟨cell_drew k8, cell_drew p8, cell_drew q0, cell_drew q1, cell_drew q2⟩) (fun hHeld => ?_)
              refine wpAnyT_take (i := 0) (v := ?_) rfl (by kernel_rfl) (by kernel_rfl) (by kernel_rfl) (fun _ _ _ h => h) (by kernel_rfl) (by decide) (Or.inl ⟨by rfl, ?_⟩) (by assumption) ?_
              rotate_left
              · (intro wq hSw; (try dsimp only at hSw); (try obtain ⟨hS1, hS2, hS3, hS4, hS5⟩ := hSw); go_simp)
                all_goals with_reducible rfl
              (try simp only [List.getElem_toArray, List.getElem_cons_zero, List.getElem_cons_succ, Act.put, List.setIfInBounds_toArray, List.set_cons_zero, List.set_cons_succ])
              refine wpAnyT_take (i := 1) (v := ?_) rfl (by kernel_rfl) (by kernel_rfl) (by kernel_rfl) (fun _ _ _ h => h) (by kernel_rfl) (by decide) (Or.inl ⟨by rfl, ?_⟩) (by assumption) ?_
              rotate_left
              · (intro wq hSw; (try dsimp only at hSw); (try obtain ⟨hS1, hS2, hS3, hS4, hS5⟩ := hSw); go_simp)
                all_goals with_reducible rfl
              (try simp only [List.getElem_toArray, List.getElem_cons_zero, List.getElem_cons_succ, Act.put, List.setIfInBounds_toArray, List.set_cons_zero, List.set_cons_succ])
              refine wpAnyT_take (i := 2) (v := ?_) rfl (by kernel_rfl) (by kernel_rfl) (by kernel_rfl) (fun _ _ _ h => h) (by kernel_rfl) (by decide) (Or.inl ⟨by rfl, ?_⟩) (by assumption) ?_
              rotate_left
              · (intro wq hSw; (try dsimp only at hSw); (try obtain ⟨hS1, hS2, hS3, hS4, hS5⟩ := hSw); go_simp)
                all_goals with_reducible rfl
              (try simp only [List.getElem_toArray, List.getElem_cons_zero, List.getElem_cons_succ, Act.put, List.setIfInBounds_toArray, List.set_cons_zero, List.set_cons_succ])
              refine wpAnyT_take (i := 3) (v := ?_) rfl (by kernel_rfl) (by kernel_rfl) (by kernel_rfl) (fun _ _ _ h => h) (by kernel_rfl) (by decide) (Or.inl ⟨by rfl, ?_⟩) (by assumption) ?_
              rotate_left
              · (intro wq hSw; (try dsimp only at hSw); (try obtain ⟨hS1, hS2, hS3, hS4, hS5⟩ := hSw); go_simp)
                all_goals with_reducible rfl
              (try simp only [List.getElem_toArray, List.getElem_cons_zero, List.getElem_cons_succ, Act.put, List.setIfInBounds_toArray, List.set_cons_zero, List.set_cons_succ])
              refine wpAnyT_take (i := 4) (v := ?_) rfl (by kernel_rfl) (by kernel_rfl) (by kernel_rfl) (fun _ _ _ h => h) (by kernel_rfl) (by decide) (Or.inl ⟨by rfl, ?_⟩) (by assumption) ?_
              rotate_left
              · (intro wq hSw; (try dsimp only at hSw); (try obtain ⟨hS1, hS2, hS3, hS4, hS5⟩ := hSw); go_simp)
                all_goals with_reducible rfl
              (try simp only [List.getElem_toArray, List.getElem_cons_zero, List.getElem_cons_succ, Act.put, List.setIfInBounds_toArray, List.set_cons_zero, List.set_cons_succ])
              refine wpAnyT_take (i := 5) (v := ?_) rfl (by kernel_rfl) (by kernel_rfl) (by kernel_rfl) (fun _ _ _ h => h) (by kernel_rfl) (by decide) (Or.inl ⟨by rfl, ?_⟩) (by assumption) ?_
              rotate_left
              · (intro wq hSw; (try dsimp only at hSw); (try obtain ⟨hS1, hS2, hS3, hS4, hS5⟩ := hSw); go_simp)
                all_goals with_reducible rfl
              (try simp only [List.getElem_toArray, List.getElem_cons_zero, List.getElem_cons_succ, Act.put, List.setIfInBounds_toArray, List.set_cons_zero, List.set_cons_succ])
              refine wpAnyT_take (i := 6) (v := ?_) rfl (by kernel_rfl) (by kernel_rfl) (by kernel_rfl) (fun _ _ _ h => h) (by kernel_rfl) (by decide) (Or.inl ⟨by rfl, ?_⟩) (by assumption) ?_
              rotate_left
              · (intro wq hSw; (try dsimp only at hSw); (try obtain ⟨hS1, hS2, hS3, hS4, hS5⟩ := hSw); go_simp)
                all_goals with_reducible rfl
              (try simp only [List.getElem_toArray, List.getElem_cons_zero, List.getElem_cons_succ, Act.put, List.setIfInBounds_toArray, List.set_cons_zero, List.set_cons_succ])
              refine wpAnyT_take (i := 7) (v := ?_) rfl (by kernel_rfl) (by kernel_rfl) (by kernel_rfl) (fun _ _ _ h => h) (by kernel_rfl) (by decide) (Or.inl ⟨by rfl, ?_⟩) (by assumption) ?_
              rotate_left
              · (intro wq hSw; (try dsimp only at hSw); (try obtain ⟨hS1, hS2, hS3, hS4, hS5⟩ := hSw); go_simp)
                all_goals with_reducible rfl
              (try simp only [List.getElem_toArray, List.getElem_cons_zero, List.getElem_cons_succ, Act.put, List.setIfInBounds_toArray, List.set_cons_zero, List.set_cons_succ])
              refine wpAnyT_take (i := 8) (v := ?_) rfl (by kernel_rfl) (by kernel_rfl) (by kernel_rfl) (fun _ _ _ h => h) (by kernel_rfl) (by decide) (Or.inl ⟨by rfl, ?_⟩) (by assumption) ?_
              rotate_left
              · (intro wq hSw; (try dsimp only at hSw); (try obtain ⟨hS1, hS2, hS3, hS4, hS5⟩ := hSw); go_simp)
                all_goals with_reducible rfl
              (try simp only [List.getElem_toArray, List.getElem_cons_zero, List.getElem_cons_succ, Act.put, List.setIfInBounds_toArray, List.set_cons_zero, List.set_cons_succ])
              refine wpAnyT_take (i := 9) (v := ?_) rfl (by kernel_rfl) (by kernel_rfl) (by kernel_rfl) (fun _ _ _ h => h) (by kernel_rfl) (by decide) (Or.inl ⟨by rfl, ?_⟩) (by assumption) ?_
              rotate_left
              · (intro wq hSw; (try dsimp only at hSw); (try obtain ⟨hS1, hS2, hS3, hS4, hS5⟩ := hSw); go_simp)
                all_goals with_reducible rfl
              (try simp only [List.getElem_toArray, List.getElem_cons_zero, List.getElem_cons_succ, Act.put, List.setIfInBounds_toArray, List.set_cons_zero, List.set_cons_succ])
              refine wpAnyT_one 10 (by kernel_rfl) rfl (fun K' hK' => ?_)
              (try rw [if_pos (by rfl)])
              go_simp
              refine hK'.out _ _ (fun _ => ⟨cell_alloc' _ (cell_drew k8), cell_alloc' _ (cell_drew p8), cell_alloc' _ (cell_drew q0), cell_alloc' _ (cell_drew q1), cell_alloc' _ (cell_drew q2)⟩) (fun hHq => ?_)
              clear hHeld
              have hHeld := hHq (by decide)
              clear hHq hK' K'
              (try simp only [List.getElem_toArray, List.getElem_cons_zero, List.getElem_cons_succ, Act.put, List.setIfInBounds_toArray, List.set_cons_zero, List.set_cons_succ])
              refine wpAnyT_one 11 (by kernel_rfl) rfl (fun K' hK' => ?_)
              (try rw [if_pos (by rfl)])
              refine wp_append_lies _ _ _ 25 rfl (xb + 1) 71 j0 _ 3 40 Tryd.underlying25 HJ.out.1 HJ.out.2.1 HJ.out.2.2.1 HJ.out.2.2.2 rfl (by decide) (.slice J1 j j1) j ((d.ms.take j).flatMap matCells) rfl (by exact own_below (own_below HX.out.2.1 (bd1 wq)) (bel1 wq.drew _)) ⟨wq.heap.size, 0, none⟩ 1 1 (matCells x) rfl rfl (cells3H _ _ _ _ _ _ (by simp)) (mat_one x) (by decide) (by unfold maxLen; omega) (by omega) (by have := HX.out.2.2; simp; omega) (wq.heap.size + 1) (by simp) ?_
              intro g8 cap8 w8 hown8 hgr8 hat8 hlt8
              have HB8 : Box (Below (xb + 1) wq w8) := ⟨fw_step HX.out.2.2 HX.out.2.1 hgr8⟩
              have HX8 : Box (Blk w8 xb 45 (insC dn (.slice J1 j j1) (.slice Z2 z2 z3))) := ⟨(HB8.out.block xb (by omega)).trans HX.out.1.x⟩
              have f0 := (World.cell?_of_block (a := ⟨xb, 8, none⟩) (HB8.out.block xb (by have := HX.out.1.hx; omega))).trans k8
              have f1 := (World.cell?_of_block (a := ⟨pb, po + m.length * 10 + 8, none⟩) (HB8.out.block pb (by have := HX.out.1.hx; omega))).trans p8
              have f2 := (World.cell?_of_block (a := ⟨mb, mo + j * 3, none⟩) (HB8.out.block mb (by have := HX.out.1.hx; omega))).trans q0
              have f3 := (World.cell?_of_block (a := ⟨mb, mo + j * 3 + 1, none⟩) (HB8.out.block mb (by have := HX.out.1.hx; omega))).trans q1
              have f4 := (World.cell?_of_block (a := ⟨mb, mo + j * 3 + 2, none⟩) (HB8.out.block mb (by have := HX.out.1.hx; omega))).trans q2
              have ef8 : w8.frozen? ⟨xb, 8, none⟩ = false := HX8.out.frozen 8
              have hsz8 := HB8.out.size
              have HST : Box (FwX w (w8.setCell ⟨xb, 8, none⟩ (.slice (some ⟨g8, 0, none⟩) (j + 1) cap8)) xb (.slice (some ⟨pb, po, none⟩) l.length c) l (.slice AO m.length co) m dn (.slice (some ⟨g8, 0, none⟩) (j + 1) cap8) (.slice Z2 z2 z3) ∧ (w8.setCell ⟨xb, 8, none⟩ (.slice (some ⟨g8, 0, none⟩) (j + 1) cap8)).ownsRow (xb + 1) 71 3 (.slice (some ⟨g8, 0, none⟩) (j + 1) cap8) (j + 1) ((d.ms.take (j + 1)).flatMap matCells) ∧ (xb + 1) ≤ (w8.setCell ⟨xb, 8, none⟩ (.slice (some ⟨g8, 0, none⟩) (j + 1) cap8)).heap.size) := ⟨HX.out.1.turn ((HB8.out.mono (show xb ≤ (xb + 1) from by omega)).setCell (p := ⟨xb, 8, none⟩) (Nat.le_refl _) _) (by simpa using HX8.out.set 8 (.slice (some ⟨g8, 0, none⟩) (j + 1) cap8)), by rw [HTK.out]; exact own_only hown8 (Only.setCell (g := xb) 8 _) (by omega), by simp [World.setCell]; have := HX.out.2.2; omega⟩
              clear hown8 hgr8 hat8 hlt8 HB8 HX8 hsz8
              refine hK'.out _ _ (fun _ => ⟨f0, f1, f2, f3, f4⟩) (fun hHq => ?_)
              clear hHeld
              have hHeld := hHq (by decide)
              clear hHq hK' K'
              (try simp only [List.getElem_toArray, List.getElem_cons_zero, List.getElem_cons_succ, Act.put, List.setIfInBounds_toArray, List.set_cons_zero, List.set_cons_succ])
              refine wpAnyT_take (i := 12) (v := ?_) rfl (by kernel_rfl) (by kernel_rfl) (by kernel_rfl) (fun _ _ _ h => h) (by kernel_rfl) (by decide) (Or.inl ⟨by rfl, ?_⟩) (by assumption) ?_
              rotate_left
              · (intro wq hSw; (try dsimp only at hSw); (try obtain ⟨hS1, hS2, hS3, hS4, hS5⟩ := hSw); go_simp)
                all_goals with_reducible rfl
              (try simp only [List.getElem_toArray, List.getElem_cons_zero, List.getElem_cons_succ, Act.put, List.setIfInBounds_toArray, List.set_cons_zero, List.set_cons_succ])
              refine wpAnyT_one 13 (by kernel_rfl) rfl (fun K' hK' => ?_)
              (try rw [if_pos (by rfl)])
              go_simp
              refine hK'.out _ _ (fun h => absurd rfl h) (fun _ => ?_)
              clear hHeld hK' K'
              (try simp only [List.getElem_toArray, List.getElem_cons_zero, List.getElem_cons_succ, Act.put, List.setIfInBounds_toArray, List.set_cons_zero, List.set_cons_succ])
              refine wpAnyT_done (by kernel_rfl) ?_ _
              go_wp2_with fail
              go_roundw
              case rel => exact ⟨j + 1, some ⟨g8, 0, none⟩, cap8, Z2, z2, z3, by omega, by omega, by go_num, HST⟩
              case measure => simp [intOf]; omega
            · have hd := decide_eq_false hc
              clear hc
              generalize decide (j < d.ms.length ∧ j < 3) = qk at hd ⊢
              subst hd
              have hxg := HX.out.1.hx
              have HZ : Box (FwX w (wq.setCell ⟨xb, 9, none⟩ (.slice none 0 0)) xb (.slice (some ⟨pb, po, none⟩) l.length c) l (.slice AO m.length co) m dn (.slice J1 j j1) (.slice none 0 0) ∧ (wq.setCell ⟨xb, 9, none⟩ (.slice none 0 0)).ownsRow (wq.setCell ⟨xb, 9, none⟩ (.slice none 0 0)).heap.size 9 1 (.slice none 0 0) 0 ((d.bys.take 0).map Value.string) ∧ (wq.setCell ⟨xb, 9, none⟩ (.slice none 0 0)).heap.size ≤ (wq.setCell ⟨xb, 9, none⟩ (.slice none 0 0)).heap.size ∧ SeqP (wq.setCell ⟨xb, 9, none⟩ (.slice none 0 0)) (fun b _ => xb < b ∧ b < (wq.setCell ⟨xb, 9, none⟩ (.slice none 0 0)).heap.size) 3 (.slice J1 j j1) j ((d.ms.take j).flatMap matCells)) :=
                ⟨HX.out.1.turn ((Below.refl _ _).setCell (p := ⟨xb, 9, none⟩) (Nat.le_refl _) _) (by simpa using HX.out.1.x.set 9 (.slice none 0 0)), World.ownsRow_nil _ _ _ _, Nat.le_refl _, ((SeqP.of_own (P := fun b _ => xb < b) HX.out.2.1 fun b _ hb _ => hb).keep (Agree.of_only (Only.setCell (g := xb) 9 _) fun b _ h => by omega)).mono fun b _ hb h => ⟨h, hb⟩⟩
              have HB2 : Box (xb < (wq.setCell ⟨xb, 9, none⟩ (.slice none 0 0)).heap.size) := ⟨by simp [World.setCell]; exact hxl⟩
              have hz2 : j ≤ d.ms.length := hj
              have hz3 : j ≤ 3 := hj3
              clear p0 p1 p2 p3 p4 p5 p6 p7 p8 p9 hxi hpb
              go_upto_region 13 with (fail)
              clear k0 k1 k2 k3 k4 k5 k6 k7 k8 k9 kf hj hj3 hxl
              generalize wq.setCell ⟨xb, 9, none⟩ (.slice none 0 0) = wz at HZ HB2 ⊢
              clear HX
              obtain ⟨B2, hB2⟩ : ∃ B, wz.heap.size = B := ⟨_, rfl⟩
              have HSZ : Box (B2 ≤ wz.heap.size) := ⟨by omega⟩
              rw [hB2] at HZ HB2
              clear hB2
              go_wp2_with fail
              go_loopw [7] (fun v wq => ∃ (j' : Nat) (I1 : Option Addr) (i1 : Nat) (Z2 : Option Addr) (z2 z3 : Nat), j' ≤ d.bys.length ∧ j' ≤ 3 ∧ z2 ≤ d.ms.length ∧ z2 ≤ 3 ∧ v = .int .i64 (j' : Nat) ∧ Box (FwX w wq xb (.slice (some ⟨pb, po, none⟩) l.length c) l (.slice AO m.length co) m dn (.slice Z2 z2 z3) (.slice I1 j' i1) ∧ wq.ownsRow B2 9 1 (.slice I1 j' i1) j' ((d.bys.take j').map Value.string) ∧ B2 ≤ wq.heap.size ∧ SeqP wq (fun b _ => xb < b ∧ b < B2) 3 (.slice Z2 z2 z3) z2 ((d.ms.take z2).flatMap matCells))) (fun v _ => 3 - (intOf v).toNat)
              case atStart => exact ⟨0, none, 0, J1, j, j1, by omega, by omega, hz2, hz3, rfl, ⟨HZ.out.1, HZ.out.2.1, HSZ.out, HZ.out.2.2.2⟩⟩
              case round =>
                clear HZ hz2 hz3 HSZ
                clear J1 j1
                rename World => wq
                obtain ⟨j, J1, j1, Z2, z2, z3, hj, hj3, hz2, hz3, rfl, HX⟩ := hrel
                obtain ⟨pb', po', mvx, bvx, hA, hpb, ⟨zpb, hpw⟩, ⟨p0, p1, p2, p3, p4, p5, p6, p7, p8, p9⟩, hxi⟩ := HX.out.1.pl.at_ m.length d HD.out
                cases hA
                obtain ⟨Y1, y1, rfl, -⟩ := hxi.ms.form
                obtain ⟨Y2, y2, rfl, -⟩ := hxi.bys.form
                obtain ⟨k0, k1, k2, k3, k4, k5, k6, k7, k8, k9⟩ := blk10z HX.out.1.x
                have kf := HX.out.1.x.frozen
                have hxl := HX.out.1.x.lt
                go_upto_region 14 with (fail)
                go_cut [66] (fun v wx => v = .bool (decide (j < d.bys.length ∧ j < 3)) ∧ wq = wx)
                case first =>
                  by_cases hlt : j < d.bys.length
                  · have hlt2 : (j : Int) < (d.bys.length : Int) := by omega
                    by_cases h3 : j < 3
                    · have h32 : (j : Int) < 3 := by omega
                      go_wp2_with fail
                      go_meet
                      exact ⟨by simp [hlt, h3], rfl⟩
                    · have h32 : ¬ (j : Int) < 3 := by omega
                      go_wp2_with fail
                      go_meet
                      exact ⟨by simp [hlt, h3], rfl⟩
                  · have hlt2 : ¬ (j : Int) < (d.bys.length : Int) := by omega
                    go_wp2_with fail
                    go_meet
                    exact ⟨by simp [hlt], rfl⟩
                case rest =>
                  obtain ⟨rfl, hwx⟩ := hcut
                  subst hwx
                  by_cases hc : j < d.bys.length ∧ j < 3
                  · have hd := decide_eq_true hc
                    obtain ⟨hc1, hc2⟩ := hc
                    generalize decide (j < d.bys.length ∧ j < 3) = qk at hd ⊢
                    subst hd
                    have hjl : (j : Int) < (d.bys.length : Int) := by omega
                    obtain ⟨x, hx⟩ : ∃ x, d.bys[j]? = some x := ⟨d.bys[j]'(by omega), List.getElem?_eq_getElem _⟩
                    obtain ⟨mb, mo, hM, -, ⟨zp, hmb⟩, q0⟩ := hxi.bys.at1b j (.string x) (by rw [List.getElem?_map, hx]; rfl)
                    cases hM
                    have HTK : Box ((d.bys.take (j + 1)).map Value.string = ((d.bys.take j).map Value.string) ++ [Value.string x]) := ⟨by rw [List.take_add_one, hx]; simp [matCells]⟩
                    clear hx
                    go_wp2_with fail
                    refine wp_region_T (S := fun w' => w'.cell? ⟨xb, 9, none⟩ = some (.slice J1 j j1) ∧ w'.cell? ⟨pb, po + m.length * 10 + 9, none⟩ = some (.slice (some ⟨mb, mo, none⟩) d.bys.length y2) ∧ w'.cell? ⟨mb, mo + j, none⟩ = some (.string x)) 13 (by kernel_rfl) (by exact ⟨cell_drew k9, cell_drew p9, cell_drew q0⟩) (fun hHeld => ?_)
                    refine wpAnyT_take (i := 0) (v := ?_) rfl (by kernel_rfl) (by kernel_rfl) (by kernel_rfl) (fun _ _ _ h => h) (by kernel_rfl) (by decide) (Or.inl ⟨by rfl, ?_⟩) (by assumption) ?_
                    rotate_left
                    · (intro wq hSw; (try dsimp only at hSw); (try obtain ⟨hS1, hS2, hS3⟩ := hSw); go_simp)
                      all_goals with_reducible rfl
                    (try simp only [List.getElem_toArray, List.getElem_cons_zero, List.getElem_cons_succ, Act.put, List.setIfInBounds_toArray, List.set_cons_zero, List.set_cons_succ])
                    refine wpAnyT_take (i := 1) (v := ?_) rfl (by kernel_rfl) (by kernel_rfl) (by kernel_rfl) (fun _ _ _ h => h) (by kernel_rfl) (by decide) (Or.inl ⟨by rfl, ?_⟩) (by assumption) ?_
                    rotate_left
                    · (intro wq hSw; (try dsimp only at hSw); (try obtain ⟨hS1, hS2, hS3⟩ := hSw); go_simp)
                      all_goals with_reducible rfl
                    (try simp only [List.getElem_toArray, List.getElem_cons_zero, List.getElem_cons_succ, Act.put, List.setIfInBounds_toArray, List.set_cons_zero, List.set_cons_succ])
                    refine wpAnyT_take (i := 2) (v := ?_) rfl (by kernel_rfl) (by kernel_rfl) (by kernel_rfl) (fun _ _ _ h => h) (by kernel_rfl) (by decide) (Or.inl ⟨by rfl, ?_⟩) (by assumption) ?_
                    rotate_left
                    · (intro wq hSw; (try dsimp only at hSw); (try obtain ⟨hS1, hS2, hS3⟩ := hSw); go_simp)
                      all_goals with_reducible rfl
                    (try simp only [List.getElem_toArray, List.getElem_cons_zero, List.getElem_cons_succ, Act.put, List.setIfInBounds_toArray, List.set_cons_zero, List.set_cons_succ])
                    refine wpAnyT_take (i := 3) (v := ?_) rfl (by kernel_rfl) (by kernel_rfl) (by kernel_rfl) (fun _ _ _ h => h) (by kernel_rfl) (by decide) (Or.inl ⟨by rfl, ?_⟩) (by assumption) ?_
                    rotate_left
                    · (intro wq hSw; (try dsimp only at hSw); (try obtain ⟨hS1, hS2, hS3⟩ := hSw); go_simp)
                      all_goals with_reducible rfl
                    (try simp only [List.getElem_toArray, List.getElem_cons_zero, List.getElem_cons_succ, Act.put, List.setIfInBounds_toArray, List.set_cons_zero, List.set_cons_succ])
                    refine wpAnyT_take (i := 4) (v := ?_) rfl (by kernel_rfl) (by kernel_rfl) (by kernel_rfl) (fun _ _ _ h => h) (by kernel_rfl) (by decide) (Or.inl ⟨by rfl, ?_⟩) (by assumption) ?_
                    rotate_left
                    · (intro wq hSw; (try dsimp only at hSw); (try obtain ⟨hS1, hS2, hS3⟩ := hSw); go_simp)
                      all_goals with_reducible rfl
                    (try simp only [List.getElem_toArray, List.getElem_cons_zero, List.getElem_cons_succ, Act.put, List.setIfInBounds_toArray, List.set_cons_zero, List.set_cons_succ])
                    refine wpAnyT_take (i := 5) (v := ?_) rfl (by kernel_rfl) (by kernel_rfl) (by kernel_rfl) (fun _ _ _ h => h) (by kernel_rfl) (by decide) (Or.inl ⟨by rfl, ?_⟩) (by assumption) ?_
                    rotate_left
                    · (intro wq hSw; (try dsimp only at hSw); (try obtain ⟨hS1, hS2, hS3⟩ := hSw); go_simp)
                      all_goals with_reducible rfl
                    (try simp only [List.getElem_toArray, List.getElem_cons_zero, List.getElem_cons_succ, Act.put, List.setIfInBounds_toArray, List.set_cons_zero, List.set_cons_succ])
                    refine wpAnyT_take (i := 6) (v := ?_) rfl (by kernel_rfl) (by kernel_rfl) (by kernel_rfl) (fun _ _ _ h => h) (by kernel_rfl) (by decide) (Or.inl ⟨by rfl, ?_⟩) (by assumption) ?_
                    rotate_left
                    · (intro wq hSw; (try dsimp only at hSw); (try obtain ⟨hS1, hS2, hS3⟩ := hSw); go_simp)
                      all_goals with_reducible rfl
                    (try simp only [List.getElem_toArray, List.getElem_cons_zero, List.getElem_cons_succ, Act.put, List.setIfInBounds_toArray, List.set_cons_zero, List.set_cons_succ])
                    refine wpAnyT_take (i := 7) (v := ?_) rfl (by kernel_rfl) (by kernel_rfl) (by kernel_rfl) (fun _ _ _ h => h) (by kernel_rfl) (by decide) (Or.inl ⟨by rfl, ?_⟩) (by assumption) ?_
                    rotate_left
                    · (intro wq hSw; (try dsimp only at hSw); (try obtain ⟨hS1, hS2, hS3⟩ := hSw); go_simp)
                      all_goals with_reducible rfl
                    (try simp only [List.getElem_toArray, List.getElem_cons_zero, List.getElem_cons_succ, Act.put, List.setIfInBounds_toArray, List.set_cons_zero, List.set_cons_succ])
                    refine wpAnyT_take (i := 8) (v := ?_) rfl (by kernel_rfl) (by kernel_rfl) (by kernel_rfl) (fun _ _ _ h => h) (by kernel_rfl) (by decide) (Or.inl ⟨by rfl, ?_⟩) (by assumption) ?_
                    rotate_left
                    · (intro wq hSw; (try dsimp only at hSw); (try obtain ⟨hS1, hS2, hS3⟩ := hSw); go_simp)
                      all_goals with_reducible rfl
                    (try simp only [List.getElem_toArray, List.getElem_cons_zero, List.getElem_cons_succ, Act.put, List.setIfInBounds_toArray, List.set_cons_zero, List.set_cons_succ])
                    refine wpAnyT_take (i := 9) (v := ?_) rfl (by kernel_rfl) (by kernel_rfl) (by kernel_rfl) (fun _ _ _ h => h) (by kernel_rfl) (by decide) (Or.inl ⟨by rfl, ?_⟩) (by assumption) ?_
                    rotate_left
                    · (intro wq hSw; (try dsimp only at hSw); (try obtain ⟨hS1, hS2, hS3⟩ := hSw); go_simp)
                      all_goals with_reducible rfl
                    (try simp only [List.getElem_toArray, List.getElem_cons_zero, List.getElem_cons_succ, Act.put, List.setIfInBounds_toArray, List.set_cons_zero, List.set_cons_succ])
                    refine wpAnyT_one 10 (by kernel_rfl) rfl (fun K' hK' => ?_)
                    (try rw [if_pos (by rfl)])
                    go_simp
                    refine hK'.out _ _ (fun _ => ⟨cell_alloc' _ (cell_drew k9), cell_alloc' _ (cell_drew p9), cell_alloc' _ (cell_drew q0)⟩) (fun hHq => ?_)
                    clear hHeld
                    have hHeld := hHq (by decide)
                    clear hHq hK' K'
                    (try simp only [List.getElem_toArray, List.getElem_cons_zero, List.getElem_cons_succ, Act.put, List.setIfInBounds_toArray, List.set_cons_zero, List.set_cons_succ])
                    refine wpAnyT_one 11 (by kernel_rfl) rfl (fun K' hK' => ?_)
                    (try rw [if_pos (by rfl)])
                    refine wp_append_lies _ _ _ 26 rfl B2 9 s0 _ 1 16 Tryd.underlying26 HSI.out.1 HSI.out.2.1 HSI.out.2.2.1 HSI.out.2.2.2 rfl (by decide) (.slice J1 j j1) j ((d.bys.take j).map Value.string) rfl (by exact own_below (own_below HX.out.2.1 (bd1 wq)) (bel1 wq.drew _)) ⟨wq.heap.size, 0, none⟩ 1 1 ([Value.string x]) rfl rfl (cells1H _ _ _ _ (by simp)) ((fun u hu => by simp at hu; subst hu; rfl)) (by decide) (by unfold maxLen; omega) (by omega) (by have := HX.out.2.2.1; simp; omega) (wq.heap.size + 1) (by simp) ?_
                    intro g8 cap8 w8 hown8 hgr8 hat8 hlt8
                    have HB8 : Box (Below B2 wq w8) := ⟨fw_step HX.out.2.2.1 HX.out.2.1 hgr8⟩
                    have HX8 : Box (Blk w8 xb 45 (insC dn (.slice Z2 z2 z3) (.slice J1 j j1))) := ⟨(HB8.out.block xb (by have := HB2.out; omega)).trans HX.out.1.x⟩
                    have f0 := (World.cell?_of_block (a := ⟨xb, 9, none⟩) (HB8.out.block xb (by have := HX.out.1.hx; have := HB2.out; omega))).trans k9
                    have f1 := (World.cell?_of_block (a := ⟨pb, po + m.length * 10 + 9, none⟩) (HB8.out.block pb (by have := HX.out.1.hx; have := HB2.out; omega))).trans p9
                    have f2 := (World.cell?_of_block (a := ⟨mb, mo + j, none⟩) (HB8.out.block mb (by have := HX.out.1.hx; have := HB2.out; omega))).trans q0
                    have ef8 : w8.frozen? ⟨xb, 9, none⟩ = false := HX8.out.frozen 9
                    have hsz8 := HB8.out.size
                    have HST : Box (FwX w (w8.setCell ⟨xb, 9, none⟩ (.slice (some ⟨g8, 0, none⟩) (j + 1) cap8)) xb (.slice (some ⟨pb, po, none⟩) l.length c) l (.slice AO m.length co) m dn (.slice Z2 z2 z3) (.slice (some ⟨g8, 0, none⟩) (j + 1) cap8) ∧ (w8.setCell ⟨xb, 9, none⟩ (.slice (some ⟨g8, 0, none⟩) (j + 1) cap8)).ownsRow B2 9 1 (.slice (some ⟨g8, 0, none⟩) (j + 1) cap8) (j + 1) ((d.bys.take (j + 1)).map Value.string) ∧ B2 ≤ (w8.setCell ⟨xb, 9, none⟩ (.slice (some ⟨g8, 0, none⟩) (j + 1) cap8)).heap.size ∧ SeqP (w8.setCell ⟨xb, 9, none⟩ (.slice (some ⟨g8, 0, none⟩) (j + 1) cap8)) (fun b _ => xb < b ∧ b < B2) 3 (.slice Z2 z2 z3) z2 ((d.ms.take z2).flatMap matCells)) := ⟨HX.out.1.turn ((HB8.out.mono (show xb ≤ B2 from by have := HB2.out; omega)).setCell (p := ⟨xb, 9, none⟩) (Nat.le_refl _) _) (by simpa using HX8.out.set 9 (.slice (some ⟨g8, 0, none⟩) (j + 1) cap8)), by rw [HTK.out]; exact own_only hown8 (Only.setCell (g := xb) 9 _) (by have := HB2.out; omega), by simp [World.setCell]; have := HX.out.2.2.1; omega, (HX.out.2.2.2.keep (Agree.of_lt HB8.out fun b _ h => h.2)).keep (Agree.of_only (Only.setCell (g := xb) 9 _) fun b _ h => by omega)⟩
                    clear hown8 hgr8 hat8 hlt8 HB8 HX8 hsz8
                    refine hK'.out _ _ (fun _ => ⟨f0, f1, f2⟩) (fun hHq => ?_)
                    clear hHeld
                    have hHeld := hHq (by decide)
                    clear hHq hK' K'
                    (try simp only [List.getElem_toArray, List.getElem_cons_zero, List.getElem_cons_succ, Act.put, List.setIfInBounds_toArray, List.set_cons_zero, List.set_cons_succ])
                    refine wpAnyT_take (i := 12) (v := ?_) rfl (by kernel_rfl) (by kernel_rfl) (by kernel_rfl) (fun _ _ _ h => h) (by kernel_rfl) (by decide) (Or.inl ⟨by rfl, ?_⟩) (by assumption) ?_
                    rotate_left
                    · (intro wq hSw; (try dsimp only at hSw); (try obtain ⟨hS1, hS2, hS3⟩ := hSw); go_simp)
                      all_goals with_reducible rfl
                    (try simp only [List.getElem_toArray, List.getElem_cons_zero, List.getElem_cons_succ, Act.put, List.setIfInBounds_toArray, List.set_cons_zero, List.set_cons_succ])
                    refine wpAnyT_one 13 (by kernel_rfl) rfl (fun K' hK' => ?_)
                    (try rw [if_pos (by rfl)])
                    go_simp
                    refine hK'.out _ _ (fun h => absurd rfl h) (fun _ => ?_)
                    clear hHeld hK' K'
                    (try simp only [List.getElem_toArray, List.getElem_cons_zero, List.getElem_cons_succ, Act.put, List.setIfInBounds_toArray, List.set_cons_zero, List.set_cons_succ])
                    refine wpAnyT_done (by kernel_rfl) ?_ _
                    go_wp2_with fail
                    go_roundw
                    case rel => exact ⟨j + 1, some ⟨g8, 0, none⟩, cap8, Z2, z2, z3, by omega, by omega, hz2, hz3, by go_num, HST⟩
                    case measure => simp [intOf]; omega
                  · have hd := decide_eq_false hc
                    clear hc
                    generalize decide (j < d.bys.length ∧ j < 3) = qk at hd ⊢
                    subst hd
                    have HLB : Box ((d.ms.take z2).length = z2 ∧ (d.bys.take j).length = j) := ⟨by rw [List.length_take]; omega, by rw [List.length_take]; omega⟩
                    have HI : Box (InsAt wq (fun b _ => xb < b) { dn with ms := d.ms.take z2, bys := d.bys.take j } (.slice Z2 z2 z3) (.slice J1 j j1)) := ⟨⟨HDN.out.1.ints, HDN.out.1.name, fun x hx => HDN.out.2.1 x (List.mem_of_mem_take hx), fun x hx => HDN.out.2.2 x (List.mem_of_mem_take hx)⟩,
                      by show SeqP _ _ _ _ (d.ms.take z2).length _; rw [HLB.out.1]; exact HX.out.2.2.2.mono fun _ _ _ h => h.1, by show SeqP _ _ _ _ (d.bys.take j).length _; rw [HLB.out.2]; exact SeqP.of_own HX.out.2.1 fun b _ hb _ => by have := HB2.out; omega⟩
                    have HSD : Box (SmallD { dn with ms := d.ms.take z2, bys := d.bys.take j }) := ⟨⟨by show (d.ms.take z2).length ≤ _; rw [HLB.out.1]; omega, by show (d.bys.take j).length ≤ _; rw [HLB.out.2]; omega⟩⟩
                    obtain ⟨cs, hown, hrow⟩ := HX.out.1.out
                    have HM := Box.mk (And.intro hown hrow)
                    clear hown hrow p0 p1 p2 p3 p4 p5 p6 p7 p8 p9
                    go_wp2_with (at_builtin; refine wpList_append_lies _ rfl _ _ 36 rfl w.heap.size 45 i0 _ 10 120 Tryd.underlying36 HII.out.1 HII.out.2.1 HII.out.2.2.1 HII.out.2.2.2 rfl (by decide) (.slice AO m.length co) m.length ((m.zip cs).flatMap insL) rfl (own_below HM.out.1 (bel1 _ _)) ⟨wq.heap.size, 0, none⟩ 1 1 (insL ({ dn with ms := d.ms.take z2, bys := d.bys.take j }, .slice Z2 z2 z3, .slice J1 j j1)) rfl rfl (World.news_of_block (Blk.new _ _ _)) (ins_one _ ⟨_, _, _, rfl⟩ ⟨_, _, _, rfl⟩) (by omega) (by unfold maxLen; omega) (by omega) (by have := HX.out.1.below.size; simp; omega) (wq.heap.size + 1) (by simp) ?_; intro g9 cap9 w9 hown9 hgr9 hat9 hlt9; have HO9 := Box.mk (HX.out.1.push HM.out.2 HI.out hown9 hgr9 hat9); clear hown9 hgr9 hat9 hlt9)
                    go_roundw
                    case rel => exact ⟨m.length + 1, m ++ [{ dn with ms := d.ms.take z2, bys := d.bys.take j }], by omega, by omega, by go_num, ⟨by simp⟩, HO9, ⟨fun e he => by
                      rcases List.mem_append.1 he with he | he
                      · exact HSM.out e he
                      · simp only [List.mem_singleton] at he; subst he; exact HSD.out⟩⟩
                    case measure => simp [intOf]; omega
      · have hk5 : ¬ (m.length : Int) < 12 := by omega
        go_wp2_with fail
        go_ret
        exact ⟨m, _, rfl, HS.out.out.any, by omega, HSM.out, HS.out.below⟩
    · have hlt2 : ¬ (m.length : Int) < (l.length : Int) := by omega
      go_wp2_with fail
      go_ret
      exact ⟨m, _, rfl, HS.out.out.any, by omega, HSM.out, HS.out.below⟩
end
section
open Go.RowKit Go.ChangeShapes Go.WideShapes Go.Deep

section
variable {H : Type} {enc : TypeId × Value → H} {W : World} {base : Nat} {spare : Nat → Bool} {held : Bool}
instance : Inhabited (Nd × Sl2) := ⟨(leafN, .slice none 0 0, .slice none 0 0)⟩
set_option maxRecDepth 100000 in
set_option maxHeartbeats 2000000 in
theorem ins_of : ∀ (fuel : Nat) (cs : List Value) (z : DataW H × List MemPlace), DataW.trod enc Tryd.prog W base spare held fuel 45 cs = some z → ∃ y : Nd × Sl2, cs = insL y ∧ InsAt W AnyP y.1 y.2.1 y.2.2 := by
  intro fuel cs z h
  obtain ⟨xs, m, hfu, _, hl, hxl, hf⟩ := DataW.trod_struct Tryd.underlying45 h
  rw [show Tryd.prog.cellsOf 45 = 10 from by kernel_rfl] at hl
  match cs, hl with
  | [c0, c1, c2, c3, c4, c5, c6, c7, c8, c9], _ =>
    have g0 : DataW.trod enc Tryd.prog W base spare held m 3 ((([c0, c1, c2, c3, c4, c5, c6, c7, c8, c9] : List Value).drop 0).take (Tryd.prog.cellsOf 3)) = xs[0]? := hf 0 _ rfl
    rw [show Tryd.prog.cellsOf 3 = 1 from by kernel_rfl] at g0
    obtain ⟨y0, hy0⟩ : ∃ y, xs[0]? = some y := ⟨xs[0]'(by rw [hxl]; decide), List.getElem?_eq_getElem _⟩
    rw [hy0] at g0
    simp only [List.drop_zero, List.drop_succ_cons, List.take_succ_cons, List.take_zero] at g0
    have g1 : DataW.trod enc Tryd.prog W base spare held m 3 ((([c0, c1, c2, c3, c4, c5, c6, c7, c8, c9] : List Value).drop 1).take (Tryd.prog.cellsOf 3)) = xs[1]? := hf 1 _ rfl
    rw [show Tryd.prog.cellsOf 3 = 1 from by kernel_rfl] at g1
    obtain ⟨y1, hy1⟩ : ∃ y, xs[1]? = some y := ⟨xs[1]'(by rw [hxl]; decide), List.getElem?_eq_getElem _⟩
    rw [hy1] at g1
    simp only [List.drop_zero, List.drop_succ_cons, List.take_succ_cons, List.take_zero] at g1
    have g2 : DataW.trod enc Tryd.prog W base spare held m 3 ((([c0, c1, c2, c3, c4, c5, c6, c7, c8, c9] : List Value).drop 2).take (Tryd.prog.cellsOf 3)) = xs[2]? := hf 2 _ rfl
    rw [show Tryd.prog.cellsOf 3 = 1 from by kernel_rfl] at g2
    obtain ⟨y2, hy2⟩ : ∃ y, xs[2]? = some y := ⟨xs[2]'(by rw [hxl]; decide), List.getElem?_eq_getElem _⟩
    rw [hy2] at g2
    simp only [List.drop_zero, List.drop_succ_cons, List.take_succ_cons, List.take_zero] at g2
    have g3 : DataW.trod enc Tryd.prog W base spare held m 3 ((([c0, c1, c2, c3, c4, c5, c6, c7, c8, c9] : List Value).drop 3).take (Tryd.prog.cellsOf 3)) = xs[3]? := hf 3 _ rfl
    rw [show Tryd.prog.cellsOf 3 = 1 from by kernel_rfl] at g3
    obtain ⟨y3, hy3⟩ : ∃ y, xs[3]? = some y := ⟨xs[3]'(by rw [hxl]; decide), List.getElem?_eq_getElem _⟩
    rw [hy3] at g3
    simp only [List.drop_zero, List.drop_succ_cons, List.take_succ_cons, List.take_zero] at g3
    have g4 : DataW.trod enc Tryd.prog W base spare held m 3 ((([c0, c1, c2, c3, c4, c5, c6, c7, c8, c9] : List Value).drop 4).take (Tryd.prog.cellsOf 3)) = xs[4]? := hf 4 _ rfl
    rw [show Tryd.prog.cellsOf 3 = 1 from by kernel_rfl] at g4
    obtain ⟨y4, hy4⟩ : ∃ y, xs[4]? = some y := ⟨xs[4]'(by rw [hxl]; decide), List.getElem?_eq_getElem _⟩
    rw [hy4] at g4
    simp only [List.drop_zero, List.drop_succ_cons, List.take_succ_cons, List.take_zero] at g4
    have g5 : DataW.trod enc Tryd.prog W base spare held m 24 ((([c0, c1, c2, c3, c4, c5, c6, c7, c8, c9] : List Value).drop 5).take (Tryd.prog.cellsOf 24)) = xs[5]? := hf 5 _ rfl
    rw [show Tryd.prog.cellsOf 24 = 2 from by kernel_rfl] at g5
    obtain ⟨y5, hy5⟩ : ∃ y, xs[5]? = some y := ⟨xs[5]'(by rw [hxl]; decide), List.getElem?_eq_getElem _⟩
    rw [hy5] at g5
    simp only [List.drop_zero, List.drop_succ_cons, List.take_succ_cons, List.take_zero] at g5
    have g6 : DataW.trod enc Tryd.prog W base spare held m 9 ((([c0, c1, c2, c3, c4, c5, c6, c7, c8, c9] : List Value).drop 7).take (Tryd.prog.cellsOf 9)) = xs[6]? := hf 6 _ rfl
    rw [show Tryd.prog.cellsOf 9 = 1 from by kernel_rfl] at g6
    obtain ⟨y6, hy6⟩ : ∃ y, xs[6]? = some y := ⟨xs[6]'(by rw [hxl]; decide), List.getElem?_eq_getElem _⟩
    rw [hy6] at g6
    simp only [List.drop_zero, List.drop_succ_cons, List.take_succ_cons, List.take_zero] at g6
    have g7 : DataW.trod enc Tryd.prog W base spare held m 25 ((([c0, c1, c2, c3, c4, c5, c6, c7, c8, c9] : List Value).drop 8).take (Tryd.prog.cellsOf 25)) = xs[7]? := hf 7 _ rfl
    rw [show Tryd.prog.cellsOf 25 = 1 from by kernel_rfl] at g7
    obtain ⟨y7, hy7⟩ : ∃ y, xs[7]? = some y := ⟨xs[7]'(by rw [hxl]; decide), List.getElem?_eq_getElem _⟩
    rw [hy7] at g7
    simp only [List.drop_zero, List.drop_succ_cons, List.take_succ_cons, List.take_zero] at g7
    have g8 : DataW.trod enc Tryd.prog W base spare held m 26 ((([c0, c1, c2, c3, c4, c5, c6, c7, c8, c9] : List Value).drop 9).take (Tryd.prog.cellsOf 26)) = xs[8]? := hf 8 _ rfl
    rw [show Tryd.prog.cellsOf 26 = 1 from by kernel_rfl] at g8
    obtain ⟨y8, hy8⟩ : ∃ y, xs[8]? = some y := ⟨xs[8]'(by rw [hxl]; decide), List.getElem?_eq_getElem _⟩
    rw [hy8] at g8
    simp only [List.drop_zero, List.drop_succ_cons, List.take_succ_cons, List.take_zero] at g8
    obtain ⟨n0, e0, _, z0⟩ := DataW.trod_int Tryd.underlying3 g0
    cases e0
    obtain ⟨n1, e1, _, z1⟩ := DataW.trod_int Tryd.underlying3 g1
    cases e1
    obtain ⟨n2, e2, _, z2⟩ := DataW.trod_int Tryd.underlying3 g2
    cases e2
    obtain ⟨n3, e3, _, z3⟩ := DataW.trod_int Tryd.underlying3 g3
    cases e3
    obtain ⟨n4, e4, _, z4⟩ := DataW.trod_int Tryd.underlying3 g4
    cases e4
    obtain ⟨hl5, m5, hf5⟩ := field_of Tryd.underlying24 (by kernel_rfl) (by kernel_rfl) g5
    obtain ⟨v5, yy5, h5, t5⟩ := hf5 0 _ rfl
    obtain ⟨v6, yy6, h6, t6⟩ := hf5 1 _ rfl
    cases h5; cases h6
    obtain ⟨n5, e5, _, z5⟩ := DataW.trod_int Tryd.underlying3 t5
    obtain ⟨n6, e6, _, z6⟩ := DataW.trod_int Tryd.underlying3 t6
    cases e5; cases e6
    obtain ⟨s6, es6, _, zs6⟩ := DataW.trod_string Tryd.underlying9 g6
    cases es6
    obtain ⟨A1, k1, p1, ms, rfl, hms, gms⟩ := rows_lt 3 matCells MatArg (fun _ => rfl) (by decide) Tryd.underlying25 (by kernel_rfl) (fun n _ => mat_of n) g7
    obtain ⟨A2, k2, p2, bys, rfl, hbs, gbs⟩ := rows_lt 1 (fun s => [Value.string s]) (fun s => s.size ≤ maxLen) (fun _ => rfl) (by decide) Tryd.underlying26 (by kernel_rfl) (fun n _ => str_of n) g8
    refine ⟨(⟨n0, n1, n2, n3, n4, n5, n6, s6, ms, bys⟩, .slice A1 k1 p1, .slice A2 k2 p2), rfl, ⟨⟨int_wf z0, int_wf z1, int_wf z2, int_wf z3, int_wf z4, int_wf z5, int_wf z6⟩, zs6, fun x hx => ⟨(gms x hx).1, (gms x hx).2.2⟩, gbs⟩, SeqP.of_seq hms fun _ _ _ _ _ => trivial, ?_⟩
    have := SeqP.of_seq (P := AnyP) hbs fun _ _ _ _ _ => trivial
    rw [strs_map] at this
    exact this
set_option maxRecDepth 100000 in
theorem open_ins {r : Reach} {b0 : Nat} {v : Value} {d : DataW H} {p : List MemPlace} (hv : Value.okWide Tryd.prog W r b0 36 v) (h : DataW.Trod enc Tryd.prog W base spare held 36 v d p) :
    ∃ (l : List Nd), PlanP W AnyP v l := by
  obtain ⟨a, len, cap, rfl⟩ := okWide_slice Tryd.underlying36 hv
  obtain ⟨fuel, hf⟩ := h
  obtain ⟨A1, k1, p1, l, hv1, hms, gms⟩ := rows_lt 10 insL (fun y => InsAt W AnyP y.1 y.2.1 y.2.2) (fun _ => rfl) (by decide) Tryd.underlying36 (by kernel_rfl) (fun n _ => ins_of n) hf
  have hv2 : Value.slice a len cap = .slice A1 k1 p1 := hv1
  rw [hv2]
  refine ⟨l.map Prod.fst, ⟨l.map Prod.snd, ?_, by simp, ?_⟩⟩
  · have := SeqP.of_seq (P := AnyP) hms fun _ _ _ _ _ => trivial
    rw [zip_back, List.length_map]
    exact this
  · intro i t c h1 h2
    rw [List.getElem?_map] at h1 h2
    cases hk : l[i]? with
    | none => rw [hk] at h1; cases h1
    | some y =>
      rw [hk] at h1 h2
      cases h1; cases h2
      exact gms y (List.mem_of_getElem? hk)
end
end
section
open Go.RowKit FracM

set_option maxHeartbeats 8000000 in
set_option maxRecDepth 100000 in
theorem rebuilds_any (l : List Nd) (pv : Value) (w : World) (hp : PlanP w AnyP pv l) (hsm : ∀ d ∈ l, SmallD d) (hw : WordsV w) : Calls Tryd.prog 16 #[pv] w (RetB (.bool true) w) := by
  obtain ⟨A, c, rfl, -⟩ := hp.form
  obtain ⟨q, hq⟩ : ∃ q, treeM l = q := ⟨_, rfl⟩
  obtain ⟨⟨d, ks⟩, er⟩ := q
  have CT : Box (Calls Tryd.prog 26 #[.slice A l.length c] w (RetTr (.node d ks, er) w)) := ⟨by rw [← hq]; exact ptree_any l _ w hp hsm (wordsV_g hw)⟩
  have CR : Box (∀ W : World, PlanP W AnyP (.slice A l.length c) l → Calls Tryd.prog 38 #[.slice A l.length c] W (RetTr (.node d ks, er) W)) := ⟨fun W h => by rw [← hq]; exact rtree_any l _ W h⟩
  have CK : Box (∀ W : World, PlanP W AnyP (.slice A l.length c) l → Below w.heap.size w W → Calls Tryd.prog 19 #[.slice A l.length c] W (RetB (.int .i64 er) W)) := ⟨fun W h hb => by have h2 := pcheck_any l _ W h hsm (wordsV_g (hw.below hb)); rw [hq] at h2; exact h2⟩
  have HP := Box.mk hp
  clear hp hsm hw hq
  go_enter Tryd.func16, Tryd.ntmps16
  go_wp2_with fail
  with_reducible refine (CT.out).mono ?_
  rintro e1 w1 ⟨mv, bv, kv, rfl, hT, hb⟩
  obtain ⟨A1, c1, rfl, -⟩ := hT.nod.ms.form
  obtain ⟨A2, c2, rfl, -⟩ := hT.nod.bys.form
  obtain ⟨A3, c3, rfl, -⟩ := hT.nod.kform
  simp only [Tree.d]
  have HS1 : Box (Below w.heap.size w (w1.alloc (.cells (ndC d (.slice A1 d.ms.length c1) (.slice A2 d.bys.length c2) (.slice A3 ks.length c3)) 29)) ∧ TB (w1.alloc (.cells (ndC d (.slice A1 d.ms.length c1) (.slice A2 d.bys.length c2) (.slice A3 ks.length c3)) 29)) w1.heap.size (.node d ks) (.slice A1 d.ms.length c1, .slice A2 d.bys.length c2, .slice A3 ks.length c3) ∧ PlanP (w1.alloc (.cells (ndC d (.slice A1 d.ms.length c1) (.slice A2 d.bys.length c2) (.slice A3 ks.length c3)) 29)) AnyP (.slice A l.length c) l) := ⟨bthen hb (bel1 _ _) (Nat.le_refl _), TB.new hT, HP.out.anyB (bthen hb (bel1 _ _) (Nat.le_refl _))⟩
  clear hT hb CT HP
  go_upto_region 2 with (fail)
  obtain ⟨g1, hg1⟩ : ∃ g, w1.heap.size = g := ⟨_, rfl⟩
  rw [hg1] at HS1 ⊢
  clear hg1
  generalize w1.alloc (.cells (ndC d (.slice A1 d.ms.length c1) (.slice A2 d.bys.length c2) (.slice A3 ks.length c3)) 29) = W1 at HS1 ⊢
  go_wp2_with fail
  with_reducible refine (CR.out _ HS1.out.2.2).mono ?_
  rintro e2 w2 ⟨mv, bv, kv, rfl, hT, hb⟩
  obtain ⟨B1, b1, rfl, -⟩ := hT.nod.ms.form
  obtain ⟨B2, b2, rfl, -⟩ := hT.nod.bys.form
  obtain ⟨B3, b3, rfl, -⟩ := hT.nod.kform
  simp only [Tree.d]
  have HS2 : Box (Below w.heap.size w (w2.alloc (.cells (ndC d (.slice B1 d.ms.length b1) (.slice B2 d.bys.length b2) (.slice B3 ks.length b3)) 29)) ∧ TB (w2.alloc (.cells (ndC d (.slice B1 d.ms.length b1) (.slice B2 d.bys.length b2) (.slice B3 ks.length b3)) 29)) w2.heap.size (.node d ks) (.slice B1 d.ms.length b1, .slice B2 d.bys.length b2, .slice B3 ks.length b3) ∧ TB (w2.alloc (.cells (ndC d (.slice B1 d.ms.length b1) (.slice B2 d.bys.length b2) (.slice B3 ks.length b3)) 29)) g1 (.node d ks) (.slice A1 d.ms.length c1, .slice A2 d.bys.length c2, .slice A3 ks.length c3) ∧ PlanP (w2.alloc (.cells (ndC d (.slice B1 d.ms.length b1) (.slice B2 d.bys.length b2) (.slice B3 ks.length b3)) 29)) AnyP (.slice A l.length c) l) := ⟨bthen (bthen HS1.out.1 hb (Nat.le_refl _)) (bel1 _ _) (Nat.le_refl _), TB.new hT, HS1.out.2.1.next (bthen hb (bel1 _ _) (Nat.le_refl _)), HS1.out.2.2.anyB (bthen hb (bel1 _ _) (Nat.le_refl _))⟩
  clear hT hb CR HS1
  go_upto_region 3 with (fail)
  obtain ⟨g2, hg2⟩ : ∃ g, w2.heap.size = g := ⟨_, rfl⟩
  rw [hg2] at HS2 ⊢
  clear hg2
  generalize w2.alloc (.cells (ndC d (.slice B1 d.ms.length b1) (.slice B2 d.bys.length b2) (.slice B3 ks.length b3)) 29) = W2 at HS2 ⊢
  obtain ⟨k0, k1, k2, k3, k4, k5, k6, k7, k8, k9, k10⟩ := blk11z (d := d) HS2.out.2.1.box
  obtain ⟨j0, j1, j2, j3, j4, j5, j6, j7, j8, j9, j10⟩ := blk11z (d := d) HS2.out.2.2.1.box
  have CE : Box (Calls Tryd.prog 39 #[.agg (ndC d (.slice A1 d.ms.length c1) (.slice A2 d.bys.length c2) (.slice A3 ks.length c3)), .agg (ndC d (.slice B1 d.ms.length b1) (.slice B2 d.bys.length b2) (.slice B3 ks.length b3))] W2 (RetB (.bool true) W2)) := ⟨by have h := requal_any (.node d ks) (.node d ks) _ _ W2 (.slice A1 d.ms.length c1, .slice A2 d.bys.length c2, .slice A3 ks.length c3) (.slice B1 d.ms.length b1, .slice B2 d.bys.length b2, .slice B3 ks.length b3) HS2.out.2.2.1.tr HS2.out.2.1.tr; rw [eqT_refl] at h; exact h⟩
  have hee : (er == er) = true := by simp
  go_wp2_with fail
  refine (CE.out).mono ?_
  rintro e3 w3 ⟨rfl, hb3⟩
  have HS3 : Box (Below w.heap.size w w3 ∧ PlanP w3 AnyP (.slice A l.length c) l) := ⟨bthen HS2.out.1 hb3 (Nat.le_refl _), HS2.out.2.2.2.anyB hb3⟩
  clear k0 k1 k2 k3 k4 k5 k6 k7 k8 k9 k10
  clear j0 j1 j2 j3 j4 j5 j6 j7 j8 j9 j10
  clear hb3 CE HS2
  go_wp2_with fail
  refine (CK.out _ HS3.out.2 HS3.out.1).mono ?_
  rintro e4 w4 ⟨rfl, hb4⟩
  have HB4 : Box (Below w.heap.size w w4) := ⟨bthen HS3.out.1 hb4 (Nat.le_refl _)⟩
  clear hb4 CK HS3
  go_wp2_with fail
  go_ret
  exact ⟨rfl, HB4.out⟩
theorem tdiv7 {x : Int} (h : I64 x) : I64 (x.tdiv 7) := by
  obtain ⟨h1, h2⟩ := h
  rcases Int.le_total 0 x with h0 | h0
  · rw [Int.tdiv_eq_ediv_of_nonneg h0]
    exact ⟨by omega, by omega⟩
  · have e : x.tdiv 7 = -((-x).tdiv 7) := by rw [Int.neg_tdiv, Int.neg_neg]
    rw [e, Int.tdiv_eq_ediv_of_nonneg (by omega)]
    exact ⟨by omega, by omega⟩
set_option maxHeartbeats 16000000 in
set_option maxRecDepth 100000 in
theorem planTree_walk (AL : Option Addr) (nl cl : Nat) (ll : List Int) (pv : Value) (rl : List Nd) (at' how v : Int) (w : World) (hw : WordsV w) (h1 : Ints w w.heap.size (.slice AL nl cl) ll) (hp : PlanP w AnyP pv rl)
    (a1 : -9223372036854775808 ≤ at') (a2 : at' ≤ 9223372036854775807) (b1 : -9223372036854775808 ≤ how) (b2 : how ≤ 9223372036854775807) (c1 : -9223372036854775808 ≤ v) (c2 : v ≤ 9223372036854775807) :
    Calls Tryd.prog 4 #[.slice AL nl cl, pv, .int .i64 at', .int .i64 how, .int .i64 v] w fun e w' => e = .returned (.bool true) ∧ Below w.heap.size w w' := by
  obtain ⟨RA, rc, rfl, -⟩ := hp.form
  have HW := Box.mk hw
  have HI := Box.mk (And.intro (And.intro a1 a2 : I64 at') (And.intro (And.intro b1 b2 : I64 how) (And.intro c1 c2 : I64 v)))
  have HL := Box.mk h1.toP
  have HP := Box.mk hp
  obtain ⟨s1, s2⟩ := tdiv7 HI.out.1
  obtain ⟨s3, s4⟩ := tdiv7 HI.out.2.1
  obtain ⟨s5, s6⟩ := tdiv7 HI.out.2.2
  have hw1 : IntKind.i64.wrap (at'.tdiv 7) = at'.tdiv 7 := W64_in s1 s2
  have hw2 : IntKind.i64.wrap (how.tdiv 7) = how.tdiv 7 := W64_in s3 s4
  have hw3 : IntKind.i64.wrap (v.tdiv 7) = v.tdiv 7 := W64_in s5 s6
  have HQ := Box.mk (And.intro (And.intro s1 s2 : I64 (at'.tdiv 7)) (And.intro (And.intro s3 s4 : I64 (how.tdiv 7)) (And.intro s5 s6 : I64 (v.tdiv 7))))
  clear hw h1 hp a1 a2 b1 b2 c1 c2 s1 s2 s3 s4 s5 s6
  go_enter Tryd.func4, Tryd.ntmps4
  go_wp2_with fail
  refine (expr0_any _ ll _ HL.out).mono ?_
  rintro e0 w1 ⟨t1, s1, rfl, htree, hgt, hdp, hnd, hb1⟩
  obtain ⟨xd, xs⟩ := t1
  obtain ⟨q1, q2, q3⟩ := s1
  obtain ⟨D1, n1, rfl, -⟩ := htree.form.1
  obtain ⟨D2, n2, rfl, -⟩ := htree.form.2.1
  obtain ⟨D3, n3, rfl, -⟩ := htree.form.2.2
  simp only [Tree.d]
  have HVA : Box (validE (.node xd xs) = 0) := ⟨good_valid ns6_ok (by omega) hgt (by omega) (by omega)⟩
  have HT1 : Box (TreeAt w1 AnyP (.node xd xs) (.slice D1 xd.ms.length n1, .slice D2 xd.bys.length n2, .slice D3 xs.length n3)) := ⟨by obtain ⟨Lf, h⟩ := htree; exact h.tree.mono fun _ _ _ _ => trivial⟩
  have HR1 : Box (Below w.heap.size w w1 ∧ PlanP w1 AnyP (.slice RA rl.length rc) rl) := ⟨hb1, HP.out.anyB hb1⟩
  obtain ⟨pl, hpl⟩ : ∃ l, postT (.node xd xs) = l := ⟨_, rfl⟩
  have HPS : Box (∀ d ∈ pl, SmallD d) := ⟨by rw [← hpl]; exact small_post HVA.out⟩
  have HPN : Box (pl.length ≤ 200) := ⟨by rw [← hpl]; exact (postT_small HVA.out).1⟩
  have CA : Box (Calls Tryd.prog 13 #[.agg (ndC xd (.slice D1 xd.ms.length n1) (.slice D2 xd.bys.length n2) (.slice D3 xs.length n3))] w1 (RetPlE (pl, 0) AnyP w1)) := ⟨by rw [← hpl, ← compileM_ok HVA.out]; exact rcompile_any (.node xd xs) AnyP w1 (.slice D1 xd.ms.length n1, .slice D2 xd.bys.length n2, .slice D3 xs.length n3) HT1.out (by omega) (by omega)⟩
  clear htree hgt hdp hnd hb1 HL HP hpl HVA HT1
  go_wp2_with fail
  with_reducible refine (CA.out).mono ?_
  rintro e1 w2 ⟨qv, rfl, hq, hb⟩
  obtain ⟨PA, pc, rfl⟩ := hq.form
  have HS2 : Box (Below w.heap.size w w2 ∧ PlanP w2 AnyP (.slice PA pl.length pc) pl ∧ PlanP w2 AnyP (.slice RA rl.length rc) rl) := ⟨bthen HR1.out.1 hb (Nat.le_refl _), hq.any, HR1.out.2.anyB hb⟩
  clear hq hb CA HR1
  go_wp2_with fail
  refine (rfew_any rl _ w2 HS2.out.2.2).mono ?_
  rintro e2 w3 ⟨fl, fv, rfl, hf, hfl, hfs, hb⟩
  obtain ⟨FA, fc, rfl, -⟩ := hf.form
  have HS3 : Box (Below w.heap.size w w3 ∧ PlanP w3 AnyP (.slice PA pl.length pc) pl ∧ PlanP w3 AnyP (.slice FA fl.length fc) fl) := ⟨bthen HS2.out.1 hb (Nat.le_refl _), HS2.out.2.1.anyB hb, hf⟩
  have HFS := Box.mk hfs
  clear hf hfl hfs hb HS2
  have C3 : Box (Calls Tryd.prog 15 #[.slice PA pl.length pc, .int .i64 at', .int .i64 how, .int .i64 v] w3 (RetCh pl w3)) := ⟨rchanged_any pl _ at' how v w3 HS3.out.2.1 HPS.out (by have := HPN.out; omega) HI.out.1 HI.out.2.1 HI.out.2.2⟩
  go_wp2_with fail
  refine (C3.out).mono ?_
  rintro e3 w4 ⟨xl, xv, rfl, hx, hxl, hxs, hb⟩
  obtain ⟨XA, xc, rfl⟩ := hx.form
  have HS4 : Box (Below w.heap.size w w4 ∧ PlanP w4 AnyP (.slice PA pl.length pc) pl ∧ PlanP w4 AnyP (.slice FA fl.length fc) fl ∧ PlanP w4 AnyP (.slice XA xl.length xc) xl) := ⟨bthen HS3.out.1 hb (Nat.le_refl _), HS3.out.2.1.anyB hb, HS3.out.2.2.anyB hb, hx.any⟩
  have HXS := Box.mk (And.intro hxs hxl)
  clear hx hxl hxs hb HS3 C3
  have C4 : Box (Calls Tryd.prog 16 #[.slice PA pl.length pc] w4 (RetB (.bool true) w4)) := ⟨rebuilds_any pl _ w4 HS4.out.2.1 HPS.out (HW.out.below HS4.out.1)⟩
  go_wp2_with fail
  refine (C4.out).mono ?_
  rintro e4 w5 ⟨rfl, hb⟩
  have HS5 : Box (Below w.heap.size w w5 ∧ PlanP w5 AnyP (.slice FA fl.length fc) fl ∧ PlanP w5 AnyP (.slice XA xl.length xc) xl) := ⟨bthen HS4.out.1 hb (Nat.le_refl _), HS4.out.2.2.1.anyB hb, HS4.out.2.2.2.anyB hb⟩
  clear hb C4 HS4
  have C5 : Box (Calls Tryd.prog 16 #[.slice FA fl.length fc] w5 (RetB (.bool true) w5)) := ⟨rebuilds_any fl _ w5 HS5.out.2.1 HFS.out (HW.out.below HS5.out.1)⟩
  go_wp2_with fail
  refine (C5.out).mono ?_
  rintro e5 w6 ⟨rfl, hb⟩
  have HS6 : Box (Below w.heap.size w w6 ∧ PlanP w6 AnyP (.slice XA xl.length xc) xl) := ⟨bthen HS5.out.1 hb (Nat.le_refl _), HS5.out.2.2.anyB hb⟩
  clear hb C5 HS5
  have C6 : Box (Calls Tryd.prog 16 #[.slice XA xl.length xc] w6 (RetB (.bool true) w6)) := ⟨rebuilds_any xl _ w6 HS6.out.2 HXS.out.1 (HW.out.below HS6.out.1)⟩
  go_wp2_with fail
  refine (C6.out).mono ?_
  rintro e6 w7 ⟨rfl, hb⟩
  have HS7 : Box (Below w.heap.size w w7 ∧ PlanP w7 AnyP (.slice XA xl.length xc) xl) := ⟨bthen HS6.out.1 hb (Nat.le_refl _), HS6.out.2.anyB hb⟩
  clear hb C6 HS6
  have C7 : Box (Calls Tryd.prog 15 #[.slice XA xl.length xc, .int .i64 (at'.tdiv 7), .int .i64 (how.tdiv 7), .int .i64 (v.tdiv 7)] w7 (RetCh xl w7)) := ⟨rchanged_any xl _ _ _ _ w7 HS7.out.2 HXS.out.1 (by have := HPN.out; have := HXS.out.2; omega) HQ.out.1 HQ.out.2.1 HQ.out.2.2⟩
  go_wp2_with fail
  refine (C7.out).mono ?_
  rintro e7 w8 ⟨yl, yv, rfl, hx, hxl, hxs, hb⟩
  obtain ⟨YA, yc, rfl⟩ := hx.form
  have HS8 : Box (Below w.heap.size w w8 ∧ PlanP w8 AnyP (.slice YA yl.length yc) yl) := ⟨bthen HS7.out.1 hb (Nat.le_refl _), hx.any⟩
  have HYS := Box.mk hxs
  clear hx hxl hxs hb HS7 C7
  have C8 : Box (Calls Tryd.prog 16 #[.slice YA yl.length yc] w8 (RetB (.bool true) w8)) := ⟨rebuilds_any yl _ w8 HS8.out.2 HYS.out (HW.out.below HS8.out.1)⟩
  go_wp2_with fail
  refine (C8.out).mono ?_
  rintro e8 w9 ⟨rfl, hb⟩
  have HS9 : Box (Below w.heap.size w w9) := ⟨bthen HS8.out.1 hb (Nat.le_refl _)⟩
  clear hb C8 HS8
  go_wp2_with fail
  refine (plives_true w9 (HW.out.below HS9.out)).mono ?_
  rintro e9 wL ⟨rfl, hb⟩
  have HBL : Box (Below w.heap.size w wL) := ⟨bthen HS9.out hb (Nat.le_refl _)⟩
  clear hb
  go_wp2_with fail
  go_ret
  exact ⟨rfl, HBL.out⟩
end
end Go.Proofs.YtipafbppaaflcaaDoor
