/- Contracts, packed: Bb Bc. -/
import Derived.Test.YtkdojgkiclndfaaGreatDoorPz18
import Derived.Test.YtkdojgkiclndfaaGreatDoorPz19
import Derived.Test.YtkdojgkiclndfaaGreatDoorPz39
import Derived.Test.YtkdojgkiclndfaaGreatDoorPz40
import Derived.Maps.AppendAt
set_option linter.unusedVariables false
set_option linter.unusedSimpArgs false
namespace Go.Proofs.YtkdojgkiclndfaaGreatDoor
section
open Go.RowKit FracM
theorem FW.agree {g : Nat} {u : Value} {w W : World} (h : FW g u w W) : Agree (fun b _ => b ≠ g ∧ u.ownBlock ≠ some b) w W := ⟨h.size, fun b e o hp hb _ => World.cell?_of_block (a := ⟨b, o, none⟩) (h.block b hb hp.1 hp.2)⟩
theorem zig10 {n : Int} (h : I64 n) : (encI n).length ≤ 10 := uvN_len10 (zig_lt h.1 h.2)
set_option maxHeartbeats 2000000 in
set_option maxRecDepth 100000 in
theorem pints_any (g B : Nat) (xs : List Int) (A : Option Addr) (c : Nat) (l : List Nat) (v : Value) (w : World) (h : WS g B w w v v l) (hx : SeqP w (fun b _ => b ≠ g ∧ v.ownBlock ≠ some b) 1 (.slice A xs.length c) xs.length (xs.map (Value.int .i64 ·))) (hb : ∀ x ∈ xs, I64 x) (hn : xs.length ≤ 100) (hl : l.length ≤ 900000) :
  Calls Tryz.prog 44 #[.pointer (some ⟨g, 0, none⟩), .slice A xs.length c] w (RetWr g B w v (l ++ xs.flatMap encI)) := by
 have H0 := Box.mk h
 have HX := Box.mk hx
 have HB := Box.mk hb
 clear h hx hb
 go_enter Tryz.func44, Tryz.ntmps44
 go_wp2_with fail
 go_loopw [8] (fun z wr => ∃ (k : Nat) (v' : Value) (l' : List Nat), k ≤ xs.length ∧ z = .int .i64 (k : Nat) ∧ l'.length ≤ l.length + 10 * k ∧ Box (l' = l ++ (xs.take k).flatMap encI) ∧ Box (WS g B w wr v v' l')) (fun z _ => xs.length - (intOf z).toNat)
 case atStart => exact ⟨0, v, l, by omega, rfl, by omega, ⟨by simp⟩, H0⟩
 case round =>
  clear H0
  obtain ⟨k, v', l', hk, rfl, hll, HE, HW⟩ := hrel
  by_cases hlt : k < xs.length
  ·have hlt2 : (k : Int) < (xs.length : Int) := by omega
   obtain ⟨x, hx⟩ : ∃ x, xs[k]? = some x := ⟨xs[k], List.getElem?_eq_getElem _⟩
   obtain ⟨b, off, hA, -, h0⟩ := (HX.out.keep HW.out.fw.agree).at1 k (.int .i64 x) (by rw [List.getElem?_map, hx]; rfl)
   subst hA
   have HXB := Box.mk (HB.out x (List.mem_of_getElem? hx))
   have HTK : Box (l' ++ uvN (zig x) = l ++ (xs.take (k + 1)).flatMap encI) := ⟨by rw [HE.out, List.take_add_one, hx]; simp [encI]⟩
   have h10 := zig10 HXB.out
   have HL : Box ((l' ++ uvN (zig x)).length ≤ l.length + 10 * (k + 1)) := ⟨by rw [List.length_append]; unfold encI at h10; omega⟩
   clear hx h10
   go_wp2_with fail
   refine (wint_any g B x l' v' wr HW.out.again HXB.out.1 HXB.out.2 (by omega)).mono ?_
   rintro e w1 ⟨rfl, v2, hw⟩
   have HW2 := Box.mk (HW.out.next hw)
   clear hw
   go_wp2_with fail
   go_roundw
   case rel => exact ⟨k + 1, v2, _, by omega, by go_num, HL.out, HTK, HW2⟩
   case measure => simp [intOf]; omega
  ·have hlt2 : ¬ (k : Int) < (xs.length : Int) := by omega
   have hke : k = xs.length := by omega
   subst hke
   rw [List.take_length] at HE
   go_wp2_with fail
   go_end0
   exact ⟨rfl, v', by rw [← HE.out]; exact HW.out⟩
/-- a row of bytes at an address -/
structure SqB (w : World) (b off : Nat) (l : List Nat) : Prop where
 lt : b < w.heap.size
 at_ : ∀ (k : Nat) (x : Nat), l[k]? = some x → w.cell? ⟨b, off + k, none⟩ = some (.int .u8 (x : Int))
theorem SqB.below {w w' : World} {b off : Nat} {l : List Nat} (h : SqB w b off l) (hb : Below w.heap.size w w') : SqB w' b off l := ⟨Nat.lt_of_lt_of_le h.lt hb.size, fun k x hx => (hb.cell h.lt).trans (h.at_ k x hx)⟩
theorem SqB.of_own {w : World} {B : Nat} {v : Value} {l : List Nat} (h : OwnB w B v l) (hl : 0 < l.length) : ∃ g c, v = .slice (some ⟨g, 0, none⟩) l.length c ∧ B ≤ g ∧ SqB w g 0 l := by
 unfold OwnB at h
 rcases h.2 with ⟨_, h0⟩ | ⟨g, cap, cur, rfl, hbg, hg, hnc, hcm, hcs, htake⟩
 ·omega
 ·refine ⟨g, cap, rfl, hbg, ?_, fun k x hx => ?_⟩
  ·rcases Nat.lt_or_ge g w.heap.size with hl | hl
   ·exact hl
   ·rw [Array.getElem?_eq_none hl] at hg; cases hg
  ·have hk : k < l.length := (List.getElem?_eq_some_iff.1 hx).1
   have h1 : (u8L l)[k]? = some (.int .u8 (x : Int)) := by unfold u8L; rw [List.getElem?_map, hx]; rfl
   rw [← htake, List.getElem?_take, if_pos (by omega)] at h1
   simp only [World.cell?, hg, Nat.zero_add]
   simpa using h1
theorem addr_addU (b off j : Nat) : (⟨b, off, none⟩ : Addr).add j = ⟨b, off + j, none⟩ := by
 unfold Addr.add; split
 ·next h => subst h; rfl
 ·simp
def RetSq (l : List Nat) (w : World) (e : Ending) (w' : World) : Prop := ∃ v', e = .returned v' ∧ OwnB w' w.heap.size v' l ∧ Below w.heap.size w w'
set_option maxHeartbeats 1000000 in
set_option maxRecDepth 100000 in
theorem bclone_any (b off n c : Nat) (l : List Nat) (w : World) (hn : n = l.length) (h0 : 0 < n) (h : SqB w b off l) (hm : n ≤ 1000000) :
  Calls Tryz.prog 78 #[.slice (some ⟨b, off, none⟩) n c] w (RetSq l w) := by
 obtain ⟨i0, hi, hz0, hz1, hz2⟩ := info_parts byInfo
 have HL := Box.mk hn
 have H0 := Box.mk h0
 have hnil := fun (W : World) (A : Option Addr) (n c n' c' : Nat) => Lib.run_eql_slice_nil (P := Tryz.prog) W 39 5 A n c n' c' Tryz.underlying39
 have hbs : ∀ W : World, (Instr.buildSlice 39 0 #[]).run Tryz.prog W = .ok (.slice (some ⟨W.heap.size, 0, none⟩) 0 0) (W.alloc (.cells #[] 5)) := fun W => by kernel_rfl
 have HO : Box ((w.alloc (.cells #[] 5)).ownsRow w.heap.size 5 1 (.slice (some ⟨w.heap.size, 0, none⟩) 0 0) 0 []) := ⟨World.ownsRow_made w _ 0 (Nat.le_refl _) (by unfold maxLen; omega) (by simp)⟩
 have HC1 : Box ((u8L l).length = n * 1) := ⟨by rw [u8L_len]; omega⟩
 have HC2 : Box (∀ j u, (u8L l)[j]? = some u → (w.alloc (.cells #[] 5)).cell? ((⟨b, off, none⟩ : Addr).add j) = some u) := ⟨fun j u hu => by
  unfold u8L at hu
  rw [List.getElem?_map] at hu
  obtain ⟨x, hx, rfl⟩ := Option.map_eq_some_iff.1 hu
  rw [addr_addU]
  exact (h.below (bel1 _ _)).at_ j x hx⟩
 clear h hn
 go_enter Tryz.func78, Tryz.ntmps78
 go_wp2_with (at_builtin; refine wpList_append_own_at _ rfl _ _ 39 rfl w.heap.size 5 i0 (.int .u8 0) 1 1 Tryz.underlying39 hi hz0 hz1 hz2 rfl (by decide) (.slice (some ⟨w.heap.size, 0, none⟩) 0 0) 0 [] rfl HO.out ⟨b, off, none⟩ n c (u8L l) rfl HC1.out HC2.out (by intro u hu; unfold u8L at hu; obtain ⟨x, _, rfl⟩ := List.mem_map.1 hu; rfl) (by simp only [maxLen]; omega) (by omega) (by simp) ?_; intro v' w1 hown1 hg1 hn1 hat1)
 go_ret
 have hO : OwnB w1 w.heap.size v' l := by
  unfold OwnB
  have := hown1
  rw [Nat.zero_add, List.nil_append, HL.out] at this
  exact this
 exact ⟨v', rfl, hO, (bel1 _ _).trans (Below.grown (Below.refl _ _) hg1 (by simp) (by simp [Value.ownBlock]))⟩
set_option maxHeartbeats 400000 in
theorem done_any (g B : Nat) (l : List Nat) (v : Value) (w : World) (h : WS g B w w v v l) (h0 : 0 < l.length) (hl : l.length ≤ 1000000) :
  Calls Tryz.prog 47 #[.pointer (some ⟨g, 0, none⟩)] w (RetSq l w) := by
 obtain ⟨b, c, rfl, -, hs⟩ := SqB.of_own h.own h0
 have g0 := h.G.c1
 have HS := Box.mk hs
 clear h hs
 go_enter Tryz.func47, Tryz.ntmps47
 go_wp2_with fail
 refine (bclone_any b 0 l.length c l _ rfl h0 HS.out hl).mono ?_
 rintro e w1 ⟨v', rfl, hO, hbel⟩
 go_wp2_with fail
 go_ret
 exact ⟨v', rfl, hO, hbel⟩
end
section
open Go.RowKit FracM
theorem nameB_size {s : ByteArray} (h : nameB s = true) : s.size ≤ 16 := by
 unfold nameB at h
 simp only [Bool.and_eq_true, decide_eq_true_eq] at h
 exact h.1.2
theorem valueB_size {s : ByteArray} (h : valueB s = true) : s.size ≤ 16 := by
 unfold valueB at h
 simp only [Bool.and_eq_true, decide_eq_true_eq] at h
 exact h.1
theorem bysFrom_size : ∀ (l : List ByteArray) (o : Option ByteArray), bysFrom o l = true → ∀ s ∈ l, s.size ≤ 16 := by
 intro l
 induction l with
 | nil => intro o _ s hs; cases hs
 | cons x xs ih =>
  intro o h s hs
  simp only [bysFrom, Bool.and_eq_true] at h
  rcases List.mem_cons.1 hs with rfl | hs
  ·exact nameB_size h.1.1
  ·exact ih _ h.2 s hs
theorem noSel_name {d : Nd} (h : noSelB d = true) : d.name.size ≤ 16 := by
 unfold noSelB at h
 simp only [Bool.and_eq_true] at h
 have h1 : d.name.toList = [] := by simpa using h.1.2
 have h2 : d.name = ⟨#[]⟩ := by
  have := ba_beq d.name ⟨#[]⟩
  rw [h1] at this
  simpa using this
 rw [h2]
 decide
structure SizD (d : Nd) : Prop where
 name : d.name.size ≤ 16
 ms : ∀ m ∈ d.ms, m.1.size ≤ 16 ∧ m.2.2.size ≤ 16 ∧ I64 m.2.1
 bys : ∀ s ∈ d.bys, s.size ≤ 16
theorem chk1_size {d : Nd} {n : Nat} (h : chk1 d n = 0) : SizD d := by
 unfold chk1 at h
 split at h
 ·cases h
 ·rename_i h1
  split at h
  ·cases h
  ·rename_i h2
   have h1 : shapedB d n = true := by simpa using h1
   have h2 : namedB d = true := by simpa using h2
   unfold namedB at h2
   rw [Bool.and_eq_true, Bool.and_eq_true] at h2
   obtain ⟨⟨h3, h4⟩, h5⟩ := h2
   refine ⟨?_, fun m hm => ?_, bysFrom_size d.bys none h5⟩
   ·unfold shapedB at h1
    split at h1
    ·simp only [Bool.and_eq_true] at h1; exact noSel_name h1.1.1.1.2
    ·split at h1
     ·rename_i hk
      rw [hk] at h3
      simp only [beq_self_eq_true, Bool.not_true, Bool.false_or, Bool.and_eq_true] at h3
      exact nameB_size h3.1
     ·split at h1
      ·simp only [Bool.and_eq_true] at h1; exact noSel_name h1.2
      ·split at h1
       ·simp only [Bool.and_eq_true] at h1; exact noSel_name h1.1.1.2
       ·cases h1
   ·have := List.all_eq_true.1 h4 m hm
    unfold vmatB at this
    rw [Bool.and_eq_true, Bool.and_eq_true] at this
    have h6 := this.1.2
    simp only [Bool.and_eq_true, decide_eq_true_eq] at h6
    exact ⟨nameB_size this.1.1, valueB_size this.2, by unfold I64; omega⟩
theorem plan_sizes {p : List Nd} (h : (treeM p).2 = 0) : ∀ d ∈ p, SizD d := by
 intro d hd
 obtain ⟨h1, h2⟩ := tree_back (t := (treeM p).1) (by rw [← h])
 rw [← h1] at hd
 obtain ⟨n, hn⟩ := post_chk1 _ (validE_chk h2) d hd
 exact chk1_size hn
theorem encS_len {s : ByteArray} (h : s.size ≤ 16) : (encS s).length ≤ 26 := by
 have h1 := uvN_len10 (n := s.size) (by omega)
 have h2 := strB_len s
 show (uvN s.size ++ strB s).length ≤ 26
 rw [List.length_append]
 omega
/-- a block that a writer leaves as it is -/
structure Hold (W : World) (g : Nat) (v : Value) (b : Nat) (t : TypeId) (cs : Array Value) : Prop where
 blk : Blk W b t cs
 ne : b ≠ g
 nv : v.ownBlock ≠ some b
theorem Hold.wrote {W W' : World} {g B b : Nat} {v v' : Value} {t : TypeId} {cs : Array Value} {bs : List Nat} (h : Hold W g v b t cs) (k : WS g B W W' v v' bs) : Hold W' g v' b t cs :=
 ⟨(k.fw.block b h.blk.lt h.ne h.nv).trans h.blk, h.ne, fun e => by rcases k.new b e with h1 | h1; exact h.nv h1; have := h.blk.lt; omega⟩
theorem Hold.next {W W' : World} {g b : Nat} {v : Value} {t : TypeId} {cs : Array Value} (h : Hold W g v b t cs) (f : Below W.heap.size W W') : Hold W' g v b t cs := ⟨h.blk.below f, h.ne, h.nv⟩
theorem WS.bk {g B : Nat} {w W : World} {u v : Value} {l : List Nat} (h : WS g B w W u v l) : ∀ k, v.ownBlock = some k → B ≤ k ∧ k < W.heap.size := fun k hk => by
 rcases h.own.2 with ⟨rfl, _⟩ | ⟨g', cap, cur, rfl, hb, hh, _⟩
 ·simp [Value.ownBlock] at hk
 ·simp [Value.ownBlock] at hk
  subst hk
  exact ⟨hb, (Array.getElem?_eq_some_iff.1 hh).1⟩
theorem Hold.new {W : World} {g B : Nat} {v : Value} {bs : List Nat} (h : WS g B W W v v bs) (cs : Array Value) (t : TypeId) : Hold (W.alloc (.cells cs t)) g v W.heap.size t cs :=
 ⟨Blk.new _ _ _, by have := h.G.lt; omega, fun e => by have := (h.bk _ e).2; omega⟩
/-- the state of Encode: the plan that was handed in, the writer at g -/
structure EnS (w W : World) (g : Nat) (pv : Value) (l : List Nd) (v : Value) (bs : List Nat) : Prop where
 below : Below w.heap.size w W
 pl : PlanP W (fun b _ => b < w.heap.size) pv l
 ws : WS g (g + 1) W W v v bs
 hg : w.heap.size ≤ g
theorem EnS.next {w W W' : World} {g : Nat} {pv v : Value} {l : List Nd} {bs : List Nat} (h : EnS w W g pv l v bs) (f : Below W.heap.size W W') : EnS w W' g pv l v bs := ⟨bthen h.below f (Nat.le_refl _), h.pl.belo f, (h.ws.below f).again, h.hg⟩
theorem EnS.bel {w W W' : World} {g : Nat} {pv v v' : Value} {l : List Nd} {bs bs' : List Nat} (h : EnS w W g pv l v bs) (k : WS g (g + 1) W W' v v' bs') : Below w.heap.size W W' := by
 have hg := h.hg
 have hz := h.below.size
 exact ⟨k.fw.os, k.fw.tape, k.fw.output, k.fw.size, fun i hi => k.fw.block i (by omega) (by omega) (fun e => by have := (h.ws.bk _ e).1; omega)⟩
theorem EnS.wrote {w W W' : World} {g : Nat} {pv v v' : Value} {l : List Nd} {bs bs' : List Nat} (h : EnS w W g pv l v bs) (k : WS g (g + 1) W W' v v' bs') : EnS w W' g pv l v' bs' :=
 ⟨h.below.trans (h.bel k), h.pl.keep (Agree.of_lt (h.bel k) fun _ _ h => h), k.again, h.hg⟩
/-- and an instruction in a variable -/
structure EnX (w W : World) (g : Nat) (pv : Value) (l : List Nd) (v : Value) (bs : List Nat) (xb : Nat) (d : Nd) (mv bv : Value) : Prop where
 s : EnS w W g pv l v bs
 x : Hold W g v xb 57 (insC d mv bv)
 r : InsAt W (fun b _ => b < w.heap.size) d mv bv
theorem EnX.next {w W W' : World} {g xb : Nat} {pv v mv bv : Value} {l : List Nd} {bs : List Nat} {d : Nd} (h : EnX w W g pv l v bs xb d mv bv) (f : Below W.heap.size W W') : EnX w W' g pv l v bs xb d mv bv := ⟨h.s.next f, h.x.next f, h.r.belo f⟩
theorem EnX.wrote {w W W' : World} {g xb : Nat} {pv v v' mv bv : Value} {l : List Nd} {bs bs' : List Nat} {d : Nd} (h : EnX w W g pv l v bs xb d mv bv) (k : WS g (g + 1) W W' v v' bs') : EnX w W' g pv l v' bs' xb d mv bv :=
 ⟨h.s.wrote k, h.x.wrote k, h.r.keep (Agree.of_lt (h.s.bel k) fun _ _ h => h)⟩
theorem flatI_len (xs : List Int) (h : ∀ x ∈ xs, I64 x) : (xs.flatMap encI).length ≤ 10 * xs.length := by
 induction xs with
 | nil => simp
 | cons x r ih =>
  rw [List.flatMap_cons, List.length_append, List.length_cons]
  have h1 := zig10 (h x (by simp))
  have h2 := ih fun y hy => h y (by simp [hy])
  omega
theorem own_baseU {w : World} {B C : Nat} {v : Value} {l : List Nat} (h : OwnB w B v l) (hC : C ≤ B) : OwnB w C v l := by
 refine ⟨h.1, ?_⟩
 rcases h.2 with h | ⟨g, c, cur, hv, hg, rest⟩
 ·exact .inl h
 ·exact .inr ⟨g, c, cur, hv, by omega, rest⟩
/-- a row of integers just laid -/
theorem EnS.row {w W : World} {g : Nat} {pv v : Value} {l : List Nd} {bs : List Nat} (h : EnS w W g pv l v bs) (cs : Array Value) (t : TypeId) (n : Nat) (hs : cs.size = n * 1) (hn : n ≤ 1000) : SeqP (W.alloc (.cells cs t)) (fun b _ => b ≠ g ∧ v.ownBlock ≠ some b) 1 (.slice (some ⟨W.heap.size, 0, none⟩) n n) n cs.toList := by
 have hk := Hold.new h.ws cs t
 exact SeqP.of_blk hk.blk hs hn ⟨hk.ne, hk.nv⟩
end
end Go.Proofs.YtkdojgkiclndfaaGreatDoor
