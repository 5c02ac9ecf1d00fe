/- Contracts, packed: Bc Bh. -/
import Derived.Test.YtipafbppaaflcaaDoorPu16
import Derived.Test.YtipafbppaaflcaaDoorPu36
import Derived.Test.YtipafbppaaflcaaDoorPu40
set_option linter.unusedVariables false
set_option linter.unusedSimpArgs false
namespace Go.Proofs.YtipafbppaaflcaaDoor
section
open Go.RowKit FracM
theorem nameB_size {s : ByteArray} (h : nameB s = true) : s.size ≤ 16 := by
 unfold nameB at h
 simp only [Bool.and_eq_true, decide_eq_true_eq] at h
 exact h.1.2
theorem valueB_size {s : ByteArray} (h : valueB s = true) : s.size ≤ 16 := by
 unfold valueB at h
 simp only [Bool.and_eq_true, decide_eq_true_eq] at h
 exact h.1
theorem bysFrom_size : ∀ (l : List ByteArray) (o : Option ByteArray), bysFrom o l = true → ∀ s ∈ l, s.size ≤ 16 := by
 intro l
 induction l with
 | nil => intro o _ s hs; cases hs
 | cons x xs ih =>
  intro o h s hs
  simp only [bysFrom, Bool.and_eq_true] at h
  rcases List.mem_cons.1 hs with rfl | hs
  ·exact nameB_size h.1.1
  ·exact ih _ h.2 s hs
theorem noSel_name {d : Nd} (h : noSelB d = true) : d.name.size ≤ 16 := by
 unfold noSelB at h
 simp only [Bool.and_eq_true] at h
 have h1 : d.name.toList = [] := by simpa using h.1.2
 have h2 : d.name = ⟨#[]⟩ := by
  have := ba_beq d.name ⟨#[]⟩
  rw [h1] at this
  simpa using this
 rw [h2]
 decide
structure SizD (d : Nd) : Prop where
 name : d.name.size ≤ 16
 ms : ∀ m ∈ d.ms, m.1.size ≤ 16 ∧ m.2.2.size ≤ 16 ∧ I64 m.2.1
 bys : ∀ s ∈ d.bys, s.size ≤ 16
theorem chk1_size {d : Nd} {n : Nat} (h : chk1 d n = 0) : SizD d := by
 unfold chk1 at h
 split at h
 ·cases h
 ·rename_i h1
  split at h
  ·cases h
  ·rename_i h2
   have h1 : shapedB d n = true := by simpa using h1
   have h2 : namedB d = true := by simpa using h2
   unfold namedB at h2
   rw [Bool.and_eq_true, Bool.and_eq_true] at h2
   obtain ⟨⟨h3, h4⟩, h5⟩ := h2
   refine ⟨?_, fun m hm => ?_, bysFrom_size d.bys none h5⟩
   ·unfold shapedB at h1
    split at h1
    ·simp only [Bool.and_eq_true] at h1; exact noSel_name h1.1.1.1.2
    ·split at h1
     ·rename_i hk
      rw [hk] at h3
      simp only [beq_self_eq_true, Bool.not_true, Bool.false_or, Bool.and_eq_true] at h3
      exact nameB_size h3.1
     ·split at h1
      ·simp only [Bool.and_eq_true] at h1; exact noSel_name h1.2
      ·split at h1
       ·simp only [Bool.and_eq_true] at h1; exact noSel_name h1.1.1.2
       ·cases h1
   ·have := List.all_eq_true.1 h4 m hm
    unfold vmatB at this
    rw [Bool.and_eq_true, Bool.and_eq_true] at this
    have h6 := this.1.2
    simp only [Bool.and_eq_true, decide_eq_true_eq] at h6
    exact ⟨nameB_size this.1.1, valueB_size this.2, by unfold I64; omega⟩
theorem plan_sizes {p : List Nd} (h : (treeM p).2 = 0) : ∀ d ∈ p, SizD d := by
 intro d hd
 obtain ⟨h1, h2⟩ := tree_back (t := (treeM p).1) (by rw [← h])
 rw [← h1] at hd
 obtain ⟨n, hn⟩ := post_chk1 _ (validE_chk h2) d hd
 exact chk1_size hn
theorem encS_len {s : ByteArray} (h : s.size ≤ 16) : (encS s).length ≤ 26 := by
 have h1 := uvN_len10 (n := s.size) (by omega)
 have h2 := strB_len s
 show (uvN s.size ++ strB s).length ≤ 26
 rw [List.length_append]
 omega
/-- a block that a writer leaves as it is -/
structure Hold (W : World) (g : Nat) (v : Value) (b : Nat) (t : TypeId) (cs : Array Value) : Prop where
 blk : Blk W b t cs
 ne : b ≠ g
 nv : v.ownBlock ≠ some b
theorem Hold.wrote {W W' : World} {g B b : Nat} {v v' : Value} {t : TypeId} {cs : Array Value} {bs : List Nat} (h : Hold W g v b t cs) (k : WS g B W W' v v' bs) : Hold W' g v' b t cs :=
 ⟨(k.fw.block b h.blk.lt h.ne h.nv).trans h.blk, h.ne, fun e => by rcases k.new b e with h1 | h1; exact h.nv h1; have := h.blk.lt; omega⟩
theorem Hold.next {W W' : World} {g b : Nat} {v : Value} {t : TypeId} {cs : Array Value} (h : Hold W g v b t cs) (f : Below W.heap.size W W') : Hold W' g v b t cs := ⟨h.blk.below f, h.ne, h.nv⟩
theorem WS.bk {g B : Nat} {w W : World} {u v : Value} {l : List Nat} (h : WS g B w W u v l) : ∀ k, v.ownBlock = some k → B ≤ k ∧ k < W.heap.size := fun k hk => by
 rcases h.own.2 with ⟨rfl, _⟩ | ⟨g', cap, cur, rfl, hb, hh, _⟩
 ·simp [Value.ownBlock] at hk
 ·simp [Value.ownBlock] at hk
  subst hk
  exact ⟨hb, (Array.getElem?_eq_some_iff.1 hh).1⟩
theorem Hold.new {W : World} {g B : Nat} {v : Value} {bs : List Nat} (h : WS g B W W v v bs) (cs : Array Value) (t : TypeId) : Hold (W.alloc (.cells cs t)) g v W.heap.size t cs :=
 ⟨Blk.new _ _ _, by have := h.G.lt; omega, fun e => by have := (h.bk _ e).2; omega⟩
/-- the state of Encode: the plan that was handed in, the writer at g -/
structure EnS (w W : World) (g : Nat) (pv : Value) (l : List Nd) (v : Value) (bs : List Nat) : Prop where
 below : Below w.heap.size w W
 pl : PlanP W (fun b _ => b < w.heap.size) pv l
 ws : WS g (g + 1) W W v v bs
 hg : w.heap.size ≤ g
theorem EnS.next {w W W' : World} {g : Nat} {pv v : Value} {l : List Nd} {bs : List Nat} (h : EnS w W g pv l v bs) (f : Below W.heap.size W W') : EnS w W' g pv l v bs := ⟨bthen h.below f (Nat.le_refl _), h.pl.belo f, (h.ws.below f).again, h.hg⟩
theorem EnS.bel {w W W' : World} {g : Nat} {pv v v' : Value} {l : List Nd} {bs bs' : List Nat} (h : EnS w W g pv l v bs) (k : WS g (g + 1) W W' v v' bs') : Below w.heap.size W W' := by
 have hg := h.hg
 have hz := h.below.size
 exact ⟨k.fw.os, k.fw.tape, k.fw.output, k.fw.size, fun i hi => k.fw.block i (by omega) (by omega) (fun e => by have := (h.ws.bk _ e).1; omega)⟩
theorem EnS.wrote {w W W' : World} {g : Nat} {pv v v' : Value} {l : List Nd} {bs bs' : List Nat} (h : EnS w W g pv l v bs) (k : WS g (g + 1) W W' v v' bs') : EnS w W' g pv l v' bs' :=
 ⟨h.below.trans (h.bel k), h.pl.keep (Agree.of_lt (h.bel k) fun _ _ h => h), k.again, h.hg⟩
/-- and an instruction in a variable -/
structure EnX (w W : World) (g : Nat) (pv : Value) (l : List Nd) (v : Value) (bs : List Nat) (xb : Nat) (d : Nd) (mv bv : Value) : Prop where
 s : EnS w W g pv l v bs
 x : Hold W g v xb 45 (insC d mv bv)
 r : InsAt W (fun b _ => b < w.heap.size) d mv bv
theorem EnX.next {w W W' : World} {g xb : Nat} {pv v mv bv : Value} {l : List Nd} {bs : List Nat} {d : Nd} (h : EnX w W g pv l v bs xb d mv bv) (f : Below W.heap.size W W') : EnX w W' g pv l v bs xb d mv bv := ⟨h.s.next f, h.x.next f, h.r.belo f⟩
theorem EnX.wrote {w W W' : World} {g xb : Nat} {pv v v' mv bv : Value} {l : List Nd} {bs bs' : List Nat} {d : Nd} (h : EnX w W g pv l v bs xb d mv bv) (k : WS g (g + 1) W W' v v' bs') : EnX w W' g pv l v' bs' xb d mv bv :=
 ⟨h.s.wrote k, h.x.wrote k, h.r.keep (Agree.of_lt (h.s.bel k) fun _ _ h => h)⟩
theorem flatI_len (xs : List Int) (h : ∀ x ∈ xs, I64 x) : (xs.flatMap encI).length ≤ 10 * xs.length := by
 induction xs with
 | nil => simp
 | cons x r ih =>
  rw [List.flatMap_cons, List.length_append, List.length_cons]
  have h1 := zig10 (h x (by simp))
  have h2 := ih fun y hy => h y (by simp [hy])
  omega
theorem own_baseU {w : World} {B C : Nat} {v : Value} {l : List Nat} (h : OwnB w B v l) (hC : C ≤ B) : OwnB w C v l := by
 refine ⟨h.1, ?_⟩
 rcases h.2 with h | ⟨g, c, cur, hv, hg, rest⟩
 ·exact .inl h
 ·exact .inr ⟨g, c, cur, hv, by omega, rest⟩
/-- a row of integers just laid -/
theorem EnS.row {w W : World} {g : Nat} {pv v : Value} {l : List Nd} {bs : List Nat} (h : EnS w W g pv l v bs) (cs : Array Value) (t : TypeId) (n : Nat) (hs : cs.size = n * 1) (hn : n ≤ 1000) : SeqP (W.alloc (.cells cs t)) (fun b _ => b ≠ g ∧ v.ownBlock ≠ some b) 1 (.slice (some ⟨W.heap.size, 0, none⟩) n n) n cs.toList := by
 have hk := Hold.new h.ws cs t
 exact SeqP.of_blk hk.blk hs hn ⟨hk.ne, hk.nv⟩
end
section
open Go.RowKit FracM
theorem u8L_at {w : World} {P : Nat → Nat → Prop} {A : Option Addr} {n c : Nat} {l : List Nat} (h : SeqP w P 1 (.slice A n c) l.length (u8L l)) {k x : Nat} (hx : l[k]? = some x) : ∃ b off, A = some ⟨b, off, none⟩ ∧ b < w.heap.size ∧ w.cell? ⟨b, off + k, none⟩ = some (.int .u8 (x : Int)) :=
 h.at1 k (.int .u8 (x : Int)) (by unfold u8L; rw [List.getElem?_map, hx]; rfl)
set_option maxHeartbeats 2000000 in
set_option maxRecDepth 100000 in
theorem sameBytes_any (A1 A2 : Option Addr) (c1 c2 : Nat) (P Q : Nat → Nat → Prop) (a b : List Nat) (w : World) (ha : SeqP w P 1 (.slice A1 a.length c1) a.length (u8L a)) (hb : SeqP w Q 1 (.slice A2 b.length c2) b.length (u8L b)) (hm : a.length ≤ 1000000000) (hm' : b.length ≤ 1000000000) :
  Calls Tryd.prog 32 #[.slice A1 a.length c1, .slice A2 b.length c2] w (RetB (.bool (decide (a = b))) w) := by
 have HA := Box.mk ha
 have HB := Box.mk hb
 clear ha hb
 by_cases hl : a.length = b.length
 ·have hne : ((a.length : Int) != (b.length : Int)) = false := by simp [hl]
  have HL := Box.mk hl
  clear hl
  go_enter Tryd.func32, Tryd.ntmps32
  go_wp2_with fail
  go_loopw [5] (fun v wr => ∃ k : Nat, k ≤ a.length ∧ v = .int .i64 (k : Nat) ∧ Box (Below w.heap.size w wr) ∧ Box (a.take k = b.take k)) (fun v _ => a.length - (intOf v).toNat)
  case atStart => exact ⟨0, by omega, rfl, ⟨Below.refl _ _⟩, ⟨rfl⟩⟩
  case round =>
   obtain ⟨k, hk, rfl, HBL, HT⟩ := hrel
   by_cases hlt : k < a.length
   ·have hlt2 : (k : Int) < (a.length : Int) := by omega
    have hlt3 : (k : Int) < (b.length : Int) := by have := HL.out; omega
    obtain ⟨x, hx⟩ : ∃ x, a[k]? = some x := ⟨a[k], List.getElem?_eq_getElem _⟩
    obtain ⟨y, hy⟩ : ∃ y, b[k]? = some y := ⟨b[k]'(by have := HL.out; omega), List.getElem?_eq_getElem _⟩
    obtain ⟨b1, off1, rfl, hb1, p1⟩ := u8L_at (HA.out.keep (Agree.of_below HBL.out)) hx
    obtain ⟨b2, off2, rfl, hb2, p2⟩ := u8L_at (HB.out.keep (Agree.of_below HBL.out)) hy
    have HXY := Box.mk (And.intro hx hy)
    clear hx hy
    by_cases hq : x = y
    ·subst hq
     have hq2 : ((x : Int) != (x : Int)) = false := by simp
     have HT2 : Box (a.take (k + 1) = b.take (k + 1)) := ⟨by rw [List.take_add_one, List.take_add_one, HXY.out.1, HXY.out.2, HT.out]⟩
     go_wp2_with fail
     first | go_region | skip
     all_goals
      go_wp2_with fail
      go_roundw
      case rel => exact ⟨k + 1, by omega, by go_num, ⟨by first | exact HBL.out | exact bdrew HBL.out 1⟩, HT2⟩
      case measure => simp [intOf]; omega
    ·have hq2 : ((x : Int) != (y : Int)) = true := by simp; omega
     have HN : Box (decide (a = b) = false) := ⟨decide_eq_false fun h => hq (by have h1 := HXY.out.1; rw [h, HXY.out.2] at h1; exact (Option.some.inj h1).symm)⟩
     go_wp2_with fail
     first | go_region | skip
     all_goals
      go_wp2_with fail
      go_ret
      exact ⟨ret_bool HN.out.symm, by first | exact HBL.out | exact bdrew HBL.out 1⟩
   ·have hlt2 : ¬ (k : Int) < (a.length : Int) := by omega
    have HE : Box (decide (a = b) = true) := ⟨decide_eq_true (by have h := HT.out; rw [List.take_of_length_le (by omega), List.take_of_length_le (by have := HL.out; omega)] at h; exact h)⟩
    go_wp2_with fail
    go_ret
    exact ⟨ret_bool HE.out.symm, HBL.out⟩
 ·have hne : ((a.length : Int) != (b.length : Int)) = true := by simp; omega
  have E : Box (decide (a = b) = false) := ⟨decide_eq_false fun h => hl (by rw [h])⟩
  go_enter Tryd.func32, Tryd.ntmps32
  go_wp2_with fail
  go_ret
  exact ⟨ret_bool E.out.symm, Below.refl _ _⟩
end
end Go.Proofs.YtipafbppaaflcaaDoor
