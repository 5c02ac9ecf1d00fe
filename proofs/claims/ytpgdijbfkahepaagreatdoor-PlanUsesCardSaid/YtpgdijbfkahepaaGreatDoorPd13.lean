/- Contracts, packed: Qn Qc Kl Yk Za. -/
import Derived.Test.YtpgdijbfkahepaaGreatDoorPd3
import Derived.Test.YtpgdijbfkahepaaGreatDoorPd7
import Derived.Test.YtpgdijbfkahepaaGreatDoorPd9
import Derived.Test.YtpgdijbfkahepaaGreatDoorPd10
import Derived.Test.YtpgdijbfkahepaaGreatDoorPd11
import Derived.Test.YtpgdijbfkahepaaGreatDoorPd12
set_option linter.unusedVariables false
set_option linter.unusedSimpArgs false
namespace Go.Proofs.YtpgdijbfkahepaaGreatDoor
section
open Go.RowKit FracM
def NotB (g : Nat) : Nat → Nat → Prop := fun b _ => b < g
/-- the generator in block g: its numbers, the index of the next one, its names, its greatest window -/
structure GenAt (w : World) (g : Nat) (i : Int) (lv nv : Value) (l : List Int) (ns : List ByteArray) (most : Int) : Prop where
 blk : Blk w g 70 #[lv, .int .i64 i, nv, .int .i64 most]
 ints : SeqP w (NotB g) 1 lv l.length (l.map (Value.int .i64))
 fit : ∀ x ∈ l, I64 x
 strs : SeqP w (NotB g) 1 nv ns.length (ns.map Value.string)
theorem GenAt.only {w w' : World} {g : Nat} {i i' : Int} {lv nv : Value} {l : List Int} {ns : List ByteArray} {most : Int} (h : GenAt w g i lv nv l ns most) (f : Only g w w') (hb : Blk w' g 70 #[lv, .int .i64 i', nv, .int .i64 most]) : GenAt w' g i' lv nv l ns most :=
 ⟨hb, h.ints.keep (Agree.of_only f fun _ _ h => Nat.ne_of_lt h), h.fit, h.strs.keep (Agree.of_only f fun _ _ h => Nat.ne_of_lt h)⟩
theorem GenAt.below {w w' : World} {g : Nat} {i : Int} {lv nv : Value} {l : List Int} {ns : List ByteArray} {most : Int} (h : GenAt w g i lv nv l ns most) (f : Below w.heap.size w w') : GenAt w' g i lv nv l ns most :=
 h.only (Only.of_below f) (h.blk.below f)
/-- only blocks above g turn -/
theorem GenAt.above {w w' : World} {g : Nat} {i : Int} {lv nv : Value} {l : List Int} {ns : List ByteArray} {most : Int} (h : GenAt w g i lv nv l ns most) (f : Below (g + 1) w w') : GenAt w' g i lv nv l ns most :=
 ⟨(f.block g (Nat.lt_succ_self g)).trans h.blk, h.ints.keep (Agree.of_lt f fun _ _ h => Nat.lt_succ_of_lt h), h.fit, h.strs.keep (Agree.of_lt f fun _ _ h => Nat.lt_succ_of_lt h)⟩
theorem GenAt.drew {w : World} {g : Nat} {i : Int} {lv nv : Value} {l : List Int} {ns : List ByteArray} {most : Int} (h : GenAt w g i lv nv l ns most) : GenAt w.drew g i lv nv l ns most := h.below (below_drewN w 1)
theorem GenAt.allocd {w : World} {g : Nat} {i : Int} {lv nv : Value} {l : List Int} {ns : List ByteArray} {most : Int} (h : GenAt w g i lv nv l ns most) (o : Obj) : GenAt (w.alloc o).drew g i lv nv l ns most := (h.below (bel1 w o)).drew
theorem GenAt.alloc {w : World} {g : Nat} {i : Int} {lv nv : Value} {l : List Int} {ns : List ByteArray} {most : Int} (h : GenAt w g i lv nv l ns most) (o : Obj) : GenAt (w.alloc o) g i lv nv l ns most := h.below (bel1 w o)
theorem GenAt.c {w : World} {g : Nat} {i : Int} {lv nv : Value} {l : List Int} {ns : List ByteArray} {most : Int} (h : GenAt w g i lv nv l ns most) : w.cell? ⟨g, 0, none⟩ = some lv ∧ w.cell? ⟨g, 1, none⟩ = some (.int .i64 i) ∧ w.cell? ⟨g, 2, none⟩ = some nv ∧ w.cell? ⟨g, 3, none⟩ = some (.int .i64 most) := by
 have hb := h.blk
 unfold Blk at hb; simp [World.cell?, hb]
structure OnlyS (g : Nat) (w w' : World) : Prop where
 only : Only g w w'
 size : w'.heap.size = w.heap.size
def RetN (g : Nat) (lv nv : Value) (l : List Int) (ns : List ByteArray) (most i m : Int) (w : World) (e : Ending) (w' : World) : Prop :=
 e = .returned (.int .i64 (pickZ l i m)) ∧ GenAt w' g (i + 1) lv nv l ns most ∧ OnlyS g w w'
theorem pick_same (A : Option Addr) (n c base : Nat) (l : List Int) (i most : Int) (w : World) (h : Ints w base (.slice A n c) l) (h1 : 1 ≤ most) (h2 : most ≤ 9223372036854775807) :
  Calls Tryz.prog 12 #[.slice A n c, .int .i64 i, .int .i64 most] w fun e w' => e = .returned (.int .i64 (pickZ l i most)) ∧ w' = w := (pick_any A n c base l i most w h h1 h2).mono fun _ _ ⟨a, b⟩ => ⟨a, b.symm⟩
set_option maxHeartbeats 1000000 in
theorem next_any (g : Nat) (lv nv : Value) (l : List Int) (ns : List ByteArray) (most i m : Int) (w : World) (h : GenAt w g i lv nv l ns most) (hi : 0 ≤ i) (hi2 : i ≤ 1000000) (h1 : 1 ≤ m) (h2 : m ≤ 9223372036854775807) :
  Calls Tryz.prog 50 #[.pointer (some ⟨g, 0, none⟩), .int .i64 m] w (RetN g lv nv l ns most i m w) := by
 obtain ⟨c0, c1, c2, c3⟩ := h.c
 have cf := h.blk.frozen
 have HG := Box.mk h
 have hs : OnlyS g w (w.setCell ⟨g, 1, none⟩ (.int .i64 (i + 1))) := ⟨Only.setCell 1 _, by simp [World.setCell]⟩
 have hb : Blk (w.setCell ⟨g, 1, none⟩ (.int .i64 (i + 1))) g 70 #[lv, .int .i64 (i + 1), nv, .int .i64 most] := by simpa using h.blk.set 1 (.int .i64 (i + 1))
 have HG2 := Box.mk (h.only hs.only hb)
 obtain ⟨A, c, hlv, -⟩ := HG2.out.ints.form
 have HI : Box (Ints (w.setCell ⟨g, 1, none⟩ (.int .i64 (i + 1))) (w.setCell ⟨g, 1, none⟩ (.int .i64 (i + 1))).heap.size (.slice A l.length c) l) := ⟨by
  have := HG2.out.ints; rw [hlv] at this; exact ⟨this.seq, HG2.out.fit⟩⟩
 have HS := Box.mk hs
 clear h hs hb
 subst hlv
 go_enter Tryz.func50, Tryz.ntmps50
 go_upto_region 2 with (fail)
 obtain ⟨d0, d1, d2, d3⟩ := HG2.out.c
 generalize w.setCell ⟨g, 1, none⟩ (.int .i64 (i + 1)) = W at *
 clear c0 c1 c2 c3
 have t1 : IntKind.i64.wrap (i + 1 - 1) = i := by rw [show i + 1 - 1 = i by omega]; exact W64_in (by omega) (by omega)
 go_quiet ((go_at_call 12; exact Calls.quiet_of_same (pick_same _ _ _ _ l _ _ _ HI.out h1 h2)))
 go_wp2
 go_ret
 exact ⟨rfl, HG2.out.below (below_drewN _ _), ⟨HS.out.only.trans (Only.of_below (below_drewN _ _)), HS.out.size⟩⟩
end
section
open Go.RowKit FracM
/-- what 'count' holds -/
structure C1 (g : Nat) (w W : World) (P : Nat → Nat → Prop) (d : Nd) (ks : List Tree) (mv bv kv : Value) (cur : Int) : Prop where
 only : Only g w W
 blk : Blk W w.heap.size 35 (ndC d mv bv kv)
 nod : Nod W P d ks mv bv kv
 T : Blk W g 3 #[.int .i64 cur]
theorem C1.next {g : Nat} {w W W' : World} {P : Nat → Nat → Prop} {d : Nd} {ks : List Tree} {mv bv kv : Value} {cur cur' : Int} (h : C1 g w W P d ks mv bv kv cur) (hg : g < w.heap.size) (hP : ∀ b e, P b e → b ≠ g) (ho : Only g W W') (hT : Blk W' g 3 #[.int .i64 cur']) : C1 g w W' P d ks mv bv kv cur' :=
 ⟨h.only.trans ho, ho.blk h.blk (by omega), h.nod.keep (Agree.of_only ho hP), hT⟩
theorem C1.start {g : Nat} {w : World} {P : Nat → Nat → Prop} {d : Nd} {ks : List Tree} {mv bv kv : Value} {l cur : Int} (h : TreeAt w P (.node d ks) (mv, bv, kv)) (hP : ∀ b e, P b e → b ≠ g) (hg : Blk w g 3 #[.int .i64 l]) : C1 g w ((w.setCell ⟨g, 0, none⟩ (.int .i64 cur)).alloc (.cells (ndC d mv bv kv) 35)) P d ks mv bv kv cur := by
 have ho : Only g w ((w.setCell ⟨g, 0, none⟩ (.int .i64 cur)).alloc (.cells (ndC d mv bv kv) 35)) := (Only.setCell 0 _).trans (Only.of_below (bel1 _ _))
 exact ⟨ho, Blk.newAt _ _ (by simp [World.setCell]), (h.keep (Agree.of_only ho hP)).nod, Blk.alloc (by simpa using hg.set 0 (.int .i64 cur)) _⟩
theorem C1.start2 {g : Nat} {w : World} {P : Nat → Nat → Prop} {d : Nd} {ks : List Tree} {mv bv kv : Value} {l cur m : Int} (h : TreeAt w P (.node d ks) (mv, bv, kv)) (hP : ∀ b e, P b e → b ≠ g) (hg : Blk w g 3 #[.int .i64 l]) : C1 g w (((w.setCell ⟨g, 0, none⟩ (.int .i64 m)).setCell ⟨g, 0, none⟩ (.int .i64 cur)).alloc (.cells (ndC d mv bv kv) 35)) P d ks mv bv kv cur := by
 have ho : Only g w (((w.setCell ⟨g, 0, none⟩ (.int .i64 m)).setCell ⟨g, 0, none⟩ (.int .i64 cur)).alloc (.cells (ndC d mv bv kv) 35)) := ((Only.setCell 0 _).trans (Only.setCell 0 _)).trans (Only.of_below (bel1 _ _))
 exact ⟨ho, Blk.newAt _ _ (by simp [World.setCell]), (h.keep (Agree.of_only ho hP)).nod, Blk.alloc (by simpa using (hg.set 0 (.int .i64 m)).set 0 (.int .i64 cur)) _⟩
/-- the rest of the kids to be counted -/
def CntRel (g : Nat) (w : World) (P : Nat → Nat → Prop) (d : Nd) (ks : List Tree) (mv bv kv : Value) (dp fin : Int) (v : Value) (wr : World) : Prop :=
 ∃ (k : Nat) (cur : Int), k ≤ ks.length ∧ v = .int .i64 (k : Nat) ∧ cur ≤ 200 ∧ (12 < dp → cur < 0) ∧ C1 g w wr P d ks mv bv kv cur ∧ cntL (ks.drop k) (dp + 1) cur = fin
def CountOk (t : Tree) : Prop := ∀ (P : Nat → Nat → Prop) (w : World) (g : Nat) (dp l : Int) (s : Sl), TreeAt w P t s → (∀ b e, P b e → b ≠ g) → Blk w g 3 #[.int .i64 l] → 0 ≤ l → l ≤ 200 → 1 ≤ dp → dp ≤ 13 →
 Calls Tryz.prog 61 #[.agg (ndC t.d s.1 s.2.1 s.2.2), .int .i64 dp, .pointer (some ⟨g, 0, none⟩)] w fun e w' => e = .returned (.tuple #[]) ∧ Blk w' g 3 #[.int .i64 (cnt t dp l)] ∧ Only g w w'
set_option maxHeartbeats 2000000 in
set_option maxRecDepth 100000 in
theorem count_any : ∀ t, CountOk t := by
 refine Tree.ind ?_
 intro d ks ih P w g dp l ⟨mv, bv, kv⟩ hT hP hg h0 h1 hd1 hd2
 have HT := Box.mk hT
 have HG := Box.mk hg
 have HP := Box.mk hP
 have IH := Box.mk ih
 obtain ⟨A, c, hkv, hlen⟩ := hT.nod.kform
 subst hkv
 have c0 := hg.c1
 have cf := hg.frozen
 have gz := hg.lt
 have gn : ¬ g = w.heap.size := by omega
 have gm : ¬ w.heap.size = g := by omega
 have hfin : cnt (.node d ks) dp l = cntL ks (dp + 1) (if 12 < dp then -1 else l - 1) := by rw [cnt]
 clear hT hg hP ih
 simp only [Tree.d]
 obtain ⟨lw, hlw⟩ : ∃ z, z = l - 1 := ⟨_, rfl⟩
 have hwrap : IntKind.i64.wrap (l - 1) = lw := by rw [hlw]; exact W64_in (by omega) (by omega)
 have hdw : IntKind.i64.wrap (dp + 1) = dp + 1 := W64_in (by omega) (by omega)
 by_cases h12 : 12 < dp
 ·rw [if_pos h12, cntL_neg _ _ _ (by omega)] at hfin
  rw [hfin]
  clear hfin
  go_enter Tryz.func61, Tryz.ntmps61
  go_wp2_with fail
  go_loopw [6] (fun v wr => v = .int .i64 0 ∧ C1 g w wr P d ks mv bv (.slice A ks.length c) (-1)) (fun _ _ => 0)
  case atStart => exact ⟨rfl, C1.start2 HT.out HP.out HG.out⟩
  case round =>
   obtain ⟨rfl, h1⟩ := hrel
   have H1 := Box.mk h1
   have c1 := h1.T.c1
   have c2 := (blk11 h1.blk).2.2.2.2.2.2.2.2.2.2
   clear h1
   simp only [Nat.zero_add] at c2
   go_wp2_with fail
   all_goals
    go_end0
    exact ⟨rfl, H1.out.T, H1.out.only⟩
 ·rw [if_neg h12] at hfin
  rw [hfin]
  have HFIN := Box.mk hfin
  clear hfin
  go_enter Tryz.func61, Tryz.ntmps61
  go_wp2_with fail
  go_loopw [6] (fun v wr => CntRel g w P d ks mv bv (.slice A ks.length c) dp (cntL ks (dp + 1) (l - 1)) v wr) (fun v _ => ks.length - (intOf v).toNat)
  case atStart => exact ⟨0, l - 1, by omega, rfl, by omega, by omega, by rw [← hlw]; exact C1.start HT.out HP.out HG.out, rfl⟩
  case round =>
   obtain ⟨k, cur, hk, rfl, hc1, hc2, hC, hfin⟩ := hrel
   have HC := Box.mk hC
   have HF := Box.mk hfin
   have c1 := hC.T.c1
   have c2 := (blk11 hC.blk).2.2.2.2.2.2.2.2.2.2
   simp only [Nat.zero_add] at c2
   have cf1 := hC.T.frozen
   by_cases hn : cur < 0
   ·clear hC hfin hc1 hc2
    have hn2 : ¬ 0 ≤ cur := by omega
    go_wp2_with fail
    all_goals
     go_end0
     exact ⟨rfl, by rw [← HF.out, cntL_neg _ _ _ hn]; exact HC.out.T, HC.out.only⟩
   by_cases hlt : k < ks.length
   ·obtain ⟨x, hx⟩ : ∃ x, ks[k]? = some x := ⟨ks[k], List.getElem?_eq_getElem _⟩
    obtain ⟨e, es⟩ := x
    obtain ⟨b, off, mv', bv', kv', rfl, hb, hpb, ⟨k0, k1, k2, k3, k4, k5, k6, k7, k8, k9, k10⟩, hT'⟩ := hC.nod.kid k e es hx
    have HT' := Box.mk hT'
    have HX := Box.mk hx
    have hn2 : 0 ≤ cur := by omega
    have hlt2 : (k : Int) < (ks.length : Int) := by omega
    clear hC hfin hT' hx hn
    go_wp2_with fail
    refine (IH.out (.node e es) (List.mem_of_getElem? HX.out) P _ g _ _ (mv', bv', kv') HT'.out HP.out HC.out.T (by omega) hc1 (by omega) (by omega)).mono ?_
    rintro e1 w1 ⟨rfl, hT1, ho1⟩
    have HC1 := Box.mk (HC.out.next gz HP.out ho1 hT1)
    clear hT1 ho1 c1 c2 cf1 k0 k1 k2 k3 k4 k5 k6 k7 k8 k9 k10
    go_wp2_with fail
    go_roundw
    case rel =>
     refine ⟨k + 1, cnt (.node e es) (dp + 1) cur, by omega, by go_num, ?_, by omega, HC1.out, ?_⟩
     ·obtain ⟨q1, q2⟩ := cnt_ok (.node e es) (dp + 1) cur hn2
      by_cases hq : (nds (.node e es) : Int) ≤ cur ∧ dp + 1 + dep (.node e es) ≤ 13
      ·rw [q1 hq]; omega
      ·have := q2 hq; omega
     ·rw [← HF.out, List.drop_eq_getElem_cons (by omega : k < ks.length), cntL, if_neg (by omega)]
      rw [(List.getElem?_eq_some_iff.1 HX.out).2]
    case measure => simp [intOf]; omega
   ·have hk2 : k = ks.length := by omega
    have hlt2 : ¬ (k : Int) < (ks.length : Int) := by omega
    clear hC hfin
    go_wp2_with fail
    all_goals
     go_end0
     exact ⟨rfl, by rw [← HF.out, List.drop_eq_nil_of_le (by omega), cntL]; exact HC.out.T, HC.out.only⟩
end
section
open Go.RowKit FracM
def tokL (t : Tok) : List Value := (tokC t).toList
/-- a token's numbers and text are small -/
structure TokOk (t : Tok) : Prop where
 k : I64 t.kind
 n : 0 ≤ t.n ∧ t.n ≤ 1073741824
 s : t.text.length ≤ 2000
 o : t.off ≤ 2000
/-- the parser in block g: the tokens that are left, the end -/
structure PS (w : World) (g : Nat) (en : Int) (ts : List Tok) : Prop where
 mem : ∃ v, Blk w g 86 #[v, .int .i64 en] ∧ SeqP w (fun b _ => b < g) 4 v ts.length (ts.flatMap tokL)
 ok : ∀ t ∈ ts, TokOk t
 en0 : 0 ≤ en ∧ en ≤ 2000
theorem PS.lt {w : World} {g : Nat} {en : Int} {ts : List Tok} (h : PS w g en ts) : g < w.heap.size := by obtain ⟨v, h1, _⟩ := h.mem; exact h1.lt
theorem PS.below {w w' : World} {g : Nat} {en : Int} {ts : List Tok} (h : PS w g en ts) (hb : Below w.heap.size w w') : PS w' g en ts := by
 obtain ⟨v, h1, h2⟩ := h.mem
 exact ⟨⟨v, h1.below hb, h2.keep (Agree.of_below hb)⟩, h.ok, h.en0⟩
theorem PS.only {w w' : World} {g h : Nat} {en : Int} {ts : List Tok} (hp : PS w g en ts) (ho : Only h w w') (hb : g < h) : PS w' g en ts := by
 obtain ⟨v, h1, h2⟩ := hp.mem
 exact ⟨⟨v, ho.blk h1 (by omega), h2.keep (Agree.of_only ho (fun _ _ hx => by omega))⟩, hp.ok, hp.en0⟩
theorem PS.alloc {w : World} {g : Nat} {en : Int} {ts : List Tok} (h : PS w g en ts) (o : Obj) : PS (w.alloc o) g en ts := h.below (bel1 _ _)
theorem PS.drewN {w : World} {g : Nat} {en : Int} {ts : List Tok} (h : PS w g en ts) (n : Nat) : PS (w.drewN n) g en ts := h.below (below_drewN _ _)
theorem PS.drew {w : World} {g : Nat} {en : Int} {ts : List Tok} (h : PS w g en ts) : PS w.drew g en ts := h.below (below_drewN _ 1)
/-- what is known where a token stands -/
theorem PS.cons {w : World} {g : Nat} {en : Int} {t : Tok} {r : List Tok} (h : PS w g en (t :: r)) :
  ∃ b off c, Blk w g 86 #[.slice (some ⟨b, off, none⟩) (r.length + 1) c, .int .i64 en] ∧ b < w.heap.size ∧ b ≠ g ∧ r.length + 1 ≤ c ∧ c ≤ maxLen ∧
   w.cell? ⟨b, off, none⟩ = some (.int .i64 t.kind) ∧ w.cell? ⟨b, off + 1, none⟩ = some (.string (bsL t.text)) ∧ w.cell? ⟨b, off + 2, none⟩ = some (.int .i64 t.n) ∧ w.cell? ⟨b, off + 3, none⟩ = some (.int .i64 (t.off : Int)) ∧
   SeqP w (fun b _ => b < g) 4 (.slice (some ⟨b, off + 4, none⟩) r.length (c - 1)) r.length (r.flatMap tokL) := by
 obtain ⟨v, h1, h2, A, c, rfl, h3, h4, h5⟩ := h.mem
 obtain ⟨b, off, rfl, hb, hp, hx⟩ := h5 (by simp)
 simp only [List.length_cons] at h1 h2 h3 hp
 have e : ∀ j, ((t :: r).flatMap tokL)[j]? = if j < 4 then (tokL t)[j]? else (r.flatMap tokL)[j - 4]? := fun j => by
  rw [List.flatMap_cons, List.getElem?_append]; rfl
 refine ⟨b, off, c, h1, hb, Nat.ne_of_lt hp, h3, h4, ?_, ?_, ?_, ?_, ?_⟩
 ·exact hx 0 _ (e 0)
 ·exact hx 1 _ (e 1)
 ·exact hx 2 _ (e 2)
 ·exact hx 3 _ (e 3)
 ·refine ⟨?_, _, _, rfl, by omega, by omega, fun h0 => ⟨b, off + 4, rfl, hb, hp, fun j u hu => ?_⟩⟩
  ·rw [List.flatMap_cons, List.length_append] at h2; have : (tokL t).length = 4 := rfl; omega
  ·rw [Nat.add_assoc]
   refine hx (4 + j) u ?_
   rw [e, if_neg (by omega), Nat.add_sub_cancel_left]; exact hu
theorem PS.put {w : World} {g : Nat} {en : Int} {t : Tok} {r : List Tok} (h : PS w g en (t :: r)) (v : Value) (hv : SeqP w (fun b _ => b < g) 4 v r.length (r.flatMap tokL)) : PS (w.setCell ⟨g, 0, none⟩ v) g en r := by
 obtain ⟨u, h1, h2⟩ := h.mem
 refine ⟨⟨v, by have := h1.set 0 v; simpa using this, hv.keep (Agree.of_only (Only.setCell 0 v) (fun _ _ hb => Nat.ne_of_lt hb))⟩, fun x hx => h.ok x (List.mem_cons_of_mem _ hx), h.en0⟩
theorem PS.nil {w : World} {g : Nat} {en : Int} (h : PS w g en []) : ∃ A c, Blk w g 86 #[.slice A 0 c, .int .i64 en] ∧ c ≤ maxLen := by
 obtain ⟨v, h1, h2, A, c, rfl, h3, h4, h5⟩ := h.mem
 exact ⟨A, c, h1, h4⟩
abbrev failE (f : Int × Int) : Ending := .panicked [{ v := .iface 82 (.agg #[.int .i64 f.1, .int .i64 f.2]), recovered := false }]
/-- how a function of the parser ends -/
def RetX {α : Type} (g : Nat) (en : Int) (w : World) (r : Res α) (V : α → Ending → World → Prop) (e : Ending) (w' : World) : Prop :=
 Only g w w' ∧ match r with
 | .ok (a, ts) => PS w' g en ts ∧ V a e w'
 | .error f => e = failE f
end
section
open Go.RowKit
abbrev uv (a b c : Int) : Value := .agg #[.int .i64 a, .int .i64 b, .int .i64 c]
structure M3 (w W : World) (x0 x1 x2 b0 b1 b2 : Int) : Prop where
 below : Below w.heap.size w W
 A : Blk W w.heap.size 43 #[.int .i64 x0, .int .i64 x1, .int .i64 x2]
 B : Blk W (w.heap.size + 1) 43 #[.int .i64 b0, .int .i64 b1, .int .i64 b2]
 R : Blk W (w.heap.size + 1 + 1) 43 #[.int .i64 0, .int .i64 0, .int .i64 0]
end
section
open Go.RowKit
end
end Go.Proofs.YtpgdijbfkahepaaGreatDoor
