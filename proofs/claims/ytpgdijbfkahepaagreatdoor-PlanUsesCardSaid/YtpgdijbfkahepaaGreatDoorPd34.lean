/- Contracts, packed: Up. -/
import Derived.Test.YtpgdijbfkahepaaGreatDoorPd23
import Derived.Test.YtpgdijbfkahepaaGreatDoorPd28
set_option linter.unusedVariables false
set_option linter.unusedSimpArgs false
namespace Go.Proofs.YtpgdijbfkahepaaGreatDoor
section
open Go.RowKit FracM
theorem insInfo : (Tryz.prog.info? 55).map (fun i => (i.zero, i.size, i.bytes)) = some (some (.agg #[.int .i64 0, .int .i64 0, .int .i64 0, .int .i64 0, .int .i64 0, .int .i64 0, .int .i64 0, .string ⟨#[]⟩, .slice none 0 0, .slice none 0 0]), 10, 120) := by kernel_rfl
/-- a plan in a row of its own, its instructions' rows in P -/
def PlW (w : World) (B : Nat) (P : Nat → Nat → Prop) (v : Value) (l : List Nd) : Prop :=
 ∃ cs : List Sl2, w.ownsRow B 55 10 v l.length ((l.zip cs).flatMap insL) ∧ InsRows w P l cs
theorem InsRows.app {w : World} {P : Nat → Nat → Prop} {l m : List Nd} {cs ds : List Sl2} (h : InsRows w P l cs) (k : InsRows w P m ds) : InsRows w P (l ++ m) (cs ++ ds) := by
 refine ⟨by simp [h.1, k.1], fun i e c h1 h2 => ?_⟩
 rcases Nat.lt_or_ge i l.length with hi | hi
 ·rw [List.getElem?_append_left hi] at h1
  rw [List.getElem?_append_left (by rw [h.1]; exact hi)] at h2
  exact h.2 i e c h1 h2
 ·rw [List.getElem?_append_right hi] at h1
  rw [List.getElem?_append_right (by rw [h.1]; exact hi), h.1] at h2
  exact k.2 _ e c h1 h2
theorem PlW.nil (w : World) (B : Nat) (P : Nat → Nat → Prop) : PlW w B P (.slice none 0 0) [] := ⟨[], World.ownsRow_nil _ _ _ _, InsRows.nil _ _⟩
theorem PlW.form {w : World} {B : Nat} {P : Nat → Nat → Prop} {v : Value} {l : List Nd} (h : PlW w B P v l) : ∃ A c, v = .slice A l.length c := by
 obtain ⟨cs, h1, -⟩ := h
 exact own_form h1
theorem PlW.formL {w : World} {B : Nat} {P : Nat → Nat → Prop} {v : Value} {l : List Nd} (h : PlW w B P v l) : ∃ A c, v = .slice A l.length c ∧ l.length ≤ c ∧ c ≤ maxLen := by
 obtain ⟨cs, h1, -⟩ := h
 rcases h1.2 with ⟨h2, h3⟩ | ⟨g, c, cur, hv, -, -, hn, hc, -⟩
 ·exact ⟨none, 0, by rw [h2, h3], by omega, by unfold maxLen; omega⟩
 ·exact ⟨_, c, hv, hn, hc⟩
theorem PlW.below {w w' : World} {B : Nat} {P : Nat → Nat → Prop} {v : Value} {l : List Nd} (h : PlW w B P v l) (f : Below w.heap.size w w') : PlW w' B P v l := by
 obtain ⟨cs, h1, h2⟩ := h
 exact ⟨cs, own_below h1 f, h2.keep (Agree.of_below f)⟩
theorem PlW.mono {w : World} {B : Nat} {P Q : Nat → Nat → Prop} {v : Value} {l : List Nd} (h : PlW w B P v l) (hq : ∀ b e, b < w.heap.size → P b e → Q b e) : PlW w B Q v l := by
 obtain ⟨cs, h1, h2⟩ := h
 exact ⟨cs, h1, h2.mono hq⟩
theorem PlW.base {w : World} {B C : Nat} {P : Nat → Nat → Prop} {v : Value} {l : List Nd} (h : PlW w B P v l) (hC : C ≤ B) : PlW w C P v l := by
 obtain ⟨cs, h1, h2⟩ := h
 refine ⟨cs, ⟨h1.1, ?_⟩, h2⟩
 rcases h1.2 with h | ⟨g, c, cur, hv, hg, rest⟩
 ·exact .inl h
 ·exact .inr ⟨g, c, cur, hv, by omega, rest⟩
theorem PlW.p {w : World} {B : Nat} {P : Nat → Nat → Prop} {v : Value} {l : List Nd} (h : PlW w B P v l) : PlanP w (fun b e => P b e ∨ B ≤ b) v l := by
 obtain ⟨cs, h1, h2⟩ := h
 exact ⟨cs, SeqP.of_own h1 fun b c hb _ => .inr hb, h2.mono fun b e _ h => .inl h⟩
theorem PlW.any {w : World} {B : Nat} {P : Nat → Nat → Prop} {v : Value} {l : List Nd} (h : PlW w B P v l) : PlanP w AnyP v l := h.p.mono fun _ _ _ _ => trivial
theorem ins_one (x : Nd × Sl2) (hm : ∃ A n c, x.2.1 = .slice A n c) (hb : ∃ A n c, x.2.2 = .slice A n c) : ∀ u ∈ insL x, u.oneCell' = true := by
 obtain ⟨A, n, c, h1⟩ := hm
 obtain ⟨A', n', c', h2⟩ := hb
 intro u hu
 simp only [insL, insC, h1, h2, List.mem_cons, List.not_mem_nil, or_false] at hu
 rcases hu with rfl | rfl | rfl | rfl | rfl | rfl | rfl | rfl | rfl | rfl <;> rfl
theorem InsAt.forms {w : World} {P : Nat → Nat → Prop} {d : Nd} {mv bv : Value} (h : InsAt w P d mv bv) : (∃ A n c, mv = .slice A n c) ∧ ∃ A n c, bv = .slice A n c := by
 obtain ⟨A, c, h1, -⟩ := h.ms.form
 obtain ⟨A', c', h2, -⟩ := h.bys.form
 exact ⟨⟨_, _, _, h1⟩, ⟨_, _, _, h2⟩⟩
theorem InsRows.one {w : World} {P : Nat → Nat → Prop} {l : List Nd} {cs : List Sl2} (h : InsRows w P l cs) : ∀ u ∈ (l.zip cs).flatMap insL, u.oneCell' = true := by
 intro u hu
 obtain ⟨x, hx, hu⟩ := List.mem_flatMap.1 hu
 obtain ⟨i, hi⟩ := List.mem_iff_getElem?.1 hx
 obtain ⟨h1, h2⟩ := List.getElem?_zip_eq_some.1 hi
 have hk := h.2 i x.1 x.2 h1 h2
 exact ins_one x hk.forms.1 hk.forms.2 u hu
/-- what is behind an append of one instruction -/
theorem PlW.snoc {w w' : World} {B : Nat} {P : Nat → Nat → Prop} {v' : Value} {l : List Nd} {d : Nd} {mv bv : Value} {cs : List Sl2} (hr : InsRows w P l cs) (hd : InsAt w P d mv bv)
  (hown : w'.ownsRow B 55 10 v' (l.length + 1) ((l.zip cs).flatMap insL ++ insL (d, mv, bv))) (hf : Agree P w w') : PlW w' B P v' (l ++ [d]) := by
 refine ⟨cs ++ [(mv, bv)], ?_, (hr.snoc hd).keep hf⟩
 rw [zip_snoc _ _ _ _ hr.1, List.length_append]
 exact hown
theorem PlW.app {w w' : World} {B : Nat} {P : Nat → Nat → Prop} {v' : Value} {l m : List Nd} {cs ds : List Sl2} (hr : InsRows w P l cs) (hd : InsRows w P m ds)
  (hown : w'.ownsRow B 55 10 v' (l.length + m.length) ((l.zip cs).flatMap insL ++ (m.zip ds).flatMap insL)) (hf : Agree P w w') : PlW w' B P v' (l ++ m) := by
 refine ⟨cs ++ ds, ?_, (hr.app hd).keep hf⟩
 rw [List.zip_append (by rw [hr.1]), List.flatMap_append, List.length_append]
 exact hown
/-- an own row that is not empty, opened -/
theorem own_open {w : World} {B t size n : Nat} {v : Value} {xs : List Value} (h : w.ownsRow B t size v n xs) (hn : 0 < n) : ∃ g c, v = .slice (some ⟨g, 0, none⟩) n c ∧ B ≤ g ∧ g < w.heap.size ∧ (∀ j u, xs[j]? = some u → w.cell? ((⟨g, 0, none⟩ : Addr).add j) = some u) := by
 rcases h.2 with ⟨_, h0⟩ | ⟨g, cap, cur, hv, hb, hg, rest⟩
 ·omega
 ·refine ⟨g, cap, hv, hb, (Array.getElem?_eq_some_iff.1 hg).1, h.cells (by rw [hv]; rfl)⟩
theorem own_bk {w : World} {B t size n : Nat} {v : Value} {xs : List Value} (h : w.ownsRow B t size v n xs) : ∀ g, v.ownBlock = some g → B ≤ g ∧ g < w.heap.size := by
 intro g hg
 rcases h.2 with ⟨rfl, _⟩ | ⟨g', cap, cur, rfl, hb, hh, _⟩
 ·simp [Value.ownBlock] at hg
 ·simp [Value.ownBlock] at hg; subst hg
  exact ⟨hb, (Array.getElem?_eq_some_iff.1 hh).1⟩
theorem postL_take {ks : List Tree} {k : Nat} {x : Tree} (hx : ks[k]? = some x) : postL (ks.take (k + 1)) = postL (ks.take k) ++ postT x := by
 rw [show ks.take (k + 1) = ks.take k ++ [x] by rw [List.take_add_one, hx]; rfl]
 generalize ks.take k = l
 induction l with
 | nil => rw [List.nil_append, postL, postL, postL, List.append_nil]; rfl
 | cons y r ih => rw [List.cons_append, postL, postL, ih, List.append_assoc]
theorem postL_takeLe (ks : List Tree) (k : Nat) : (postL (ks.take k)).length ≤ ndsL ks := by
 have h : ∀ (l : List Tree) (k : Nat), ndsL (l.take k) ≤ ndsL l := by
  intro l
  induction l with
  | nil => intro k; simp
  | cons t r ih => intro k; cases k with
   | zero => simp [ndsL]
   | succ k => rw [List.take_succ_cons, ndsL, ndsL]; have := ih k; omega
 rw [postL_len _ fun t _ => postT_len t]
 exact h ks k
theorem postT_pos (t : Tree) : 0 < (postT t).length := by rw [postT_len]; exact nds_pos t
def RetPl (l : List Nd) (P : Nat → Nat → Prop) (w : World) (e : Ending) (w' : World) : Prop := ∃ v, e = .returned v ∧ PlW w' w.heap.size (fun b z => P b z ∧ b < w.heap.size) v l ∧ Below w.heap.size w w'
set_option maxHeartbeats 4000000 in
set_option maxRecDepth 100000 in
theorem rpostfix_any : ∀ t, ∀ (P : Nat → Nat → Prop) (w : World) (s : Sl), TreeAt w P t s → nds t ≤ 1000000 → Calls Tryz.prog 15 #[.agg (ndC t.d s.1 s.2.1 s.2.2)] w (RetPl (postT t) P w) := by
 refine Tree.ind ?_
 intro d ks ih P w ⟨mv, bv, kv⟩ hT0 hn
 have hT : TreeAt w (fun b z => P b z ∧ b < w.heap.size) (.node d ks) (mv, bv, kv) := hT0.mono fun b z hb hp => ⟨hp, hb⟩
 clear hT0
 have IH := Box.mk ih
 obtain ⟨A1, n1, hmv, l1⟩ := hT.nod.ms.form
 obtain ⟨A2, n2, hbv, l2⟩ := hT.nod.bys.form
 obtain ⟨A3, n3, hkv, l3⟩ := hT.nod.kform
 subst hmv hbv hkv
 have HND : Box (nds (.node d ks) = ndsL ks + 1) := ⟨by rw [nds]⟩
 rw [HND.out] at hn
 have HT := Box.mk hT
 have HS0 : Box (Below w.heap.size w (w.alloc (.cells (ndC d (.slice A1 d.ms.length n1) (.slice A2 d.bys.length n2) (.slice A3 ks.length n3)) 35)) ∧ Blk (w.alloc (.cells (ndC d (.slice A1 d.ms.length n1) (.slice A2 d.bys.length n2) (.slice A3 ks.length n3)) 35)) w.heap.size 35 (ndC d (.slice A1 d.ms.length n1) (.slice A2 d.bys.length n2) (.slice A3 ks.length n3))) := ⟨bel1 _ _, Blk.new _ _ _⟩
 clear hT ih
 simp only [Tree.d]
 obtain ⟨i0, hi, hz0, hz1, hz2⟩ := info_parts insInfo
 have HJ := Box.mk (And.intro hi (And.intro hz0 (And.intro hz1 hz2)))
 clear hi hz0 hz1 hz2
 go_enter Tryz.func15, Tryz.ntmps15
 go_upto_region 1 with (fail)
 generalize w.alloc (.cells (ndC d _ _ _) 35) = W at HS0 ⊢
 go_wp2_with fail
 go_loopw [3, 4] (fun o v wr => ∃ k : Nat, k ≤ ks.length ∧ v = .int .i64 (k : Nat) ∧ Box (PlW wr (w.heap.size + 1) (fun b z => P b z ∧ b < w.heap.size) o (postL (ks.take k))) ∧ Box (Below w.heap.size w wr ∧ Blk wr w.heap.size 35 (ndC d (.slice A1 d.ms.length n1) (.slice A2 d.bys.length n2) (.slice A3 ks.length n3)))) (fun _ v _ => ks.length - (intOf v).toNat)
 case atStart => exact ⟨0, by omega, rfl, ⟨PlW.nil _ _ _⟩, HS0⟩
 case round =>
  clear HS0
  obtain ⟨k, hk, rfl, HP, HS⟩ := hrel
  obtain ⟨AO, co, rfl, -⟩ := HP.out.formL
  have HTw := Box.mk (HT.out.keep (Agree.of_lt HS.out.1 fun b e h => h.2))
  by_cases hlt : k < ks.length
  ·obtain ⟨x, hx⟩ : ∃ x, ks[k]? = some x := ⟨ks[k], List.getElem?_eq_getElem _⟩
   obtain ⟨e, es⟩ := x
   obtain ⟨k0, k1, k2, k3, k4, k5, k6, k7, k8, k9, k10⟩ := blk11z HS.out.2
   clear k0 k1 k2 k3 k4 k5 k6 k7 k8 k9
   obtain ⟨b, off, mv', bv', kv', rfl, hb, hpb, ⟨z0, z1, z2, z3, z4, z5, z6, z7, z8, z9, z10⟩, hT'⟩ := HTw.out.nod.kid k e es hx
   obtain ⟨B1, m1, rfl, -⟩ := hT'.nod.ms.form
   obtain ⟨B2, m2, rfl, -⟩ := hT'.nod.bys.form
   obtain ⟨B3, m3, rfl, -⟩ := hT'.nod.kform
   have HT' := Box.mk hT'
   have HX := Box.mk hx
   have hlt2 : (k : Int) < (ks.length : Int) := by omega
   have HTK : Box (postL (ks.take (k + 1)) = postL (ks.take k) ++ postT (.node e es)) := ⟨postL_take hx⟩
   have hle := nds_mem (List.mem_of_getElem? hx)
   have HQ : Box (nds (.node e es) ≤ 1000000) := ⟨by omega⟩
   have hm0 := postT_pos (.node e es)
   have hm1 := postL_takeLe ks (k + 1)
   rw [HTK.out, List.length_append] at hm1
   obtain ⟨L, hL⟩ : ∃ L, postL (ks.take k) = L := ⟨_, rfl⟩
   obtain ⟨M, hM⟩ : ∃ M, postT (.node e es) = M := ⟨_, rfl⟩
   have HIH : Box (Calls Tryz.prog 15 #[.agg (ndC e (.slice B1 e.ms.length m1) (.slice B2 e.bys.length m2) (.slice B3 es.length m3))] wr (RetPl (postT (.node e es)) (fun b z => P b z ∧ b < w.heap.size) wr)) := Box.mk (IH.out (.node e es) (List.mem_of_getElem? hx) (fun b z => P b z ∧ b < w.heap.size) wr (.slice B1 e.ms.length m1, .slice B2 e.bys.length m2, .slice B3 es.length m3) hT' HQ.out)
   rw [hL] at HP HTK hm1 ⊢
   rw [hM] at HTK hm1 hm0 HIH
   clear hL hM hT' hx hle
   go_wp2_with fail
   with_reducible refine (HIH.out).mono ?_
   rintro e1 w1 ⟨v1, rfl, hp1, hb1⟩
   obtain ⟨cs, hown, hrow⟩ := HP.out.below hb1
   obtain ⟨ds, hown1, hrow1⟩ := hp1
   obtain ⟨g, c1, rfl, hg1, hg2, hcell⟩ := own_open hown1 hm0
   have HB : Box (Below w.heap.size w w1 ∧ Blk w1 w.heap.size 35 (ndC d (.slice A1 d.ms.length n1) (.slice A2 d.bys.length n2) (.slice (some ⟨b, off, none⟩) ks.length n3))) := ⟨bthen HS.out.1 hb1 (Nat.le_refl _), HS.out.2.below hb1⟩
   have hzw := HS.out.1.size
   have hlw := HS.out.2.lt
   have hR : InsRows w1 (fun b z => P b z ∧ b < w.heap.size) M ds := hrow1.mono fun b z _ h => h.1
   have HM := Box.mk (And.intro (And.intro hown hrow) (And.intro (And.intro hown1 hR) hcell))
   have hz1 := hb1.size
   clear hown hrow hown1 hrow1 hR hcell hb1 HS HP HIH k10 z0 z1 z2 z3 z4 z5 z6 z7 z8 z9 z10
   go_wp2_with (at_builtin; refine wpList_append_own _ rfl _ _ 25 rfl (w.heap.size + 1) 55 i0 _ 10 120 Tryz.underlying25 HJ.out.1 HJ.out.2.1 HJ.out.2.2.1 HJ.out.2.2.2 rfl (by decide) (.slice AO L.length co) L.length ((L.zip cs).flatMap insL) rfl HM.out.1.1 ⟨g, 0, none⟩ M.length c1 ((M.zip ds).flatMap insL) rfl HM.out.2.1.1.1 HM.out.2.2 HM.out.2.1.2.one (by unfold maxLen; omega) (by omega) (by omega) ?_; intro v9 w9 hown9 hgr9 hnil9)
   have hbel9 : Below w.heap.size w1 w9 := ((Below.refl _ w1).mono (by omega)).grown hgr9 (by omega) (fun k hk => by have := (own_bk HM.out.1.1 k hk).1; omega)
   have HP9 : Box (PlW w9 (w.heap.size + 1) (fun b z => P b z ∧ b < w.heap.size) v9 (postL (ks.take (k + 1)))) := ⟨by rw [HTK.out]; exact PlW.app HM.out.1.2 HM.out.2.1.2 hown9 (Agree.of_lt hbel9 fun b z h => h.2)⟩
   have HB9 : Box (Below w.heap.size w w9 ∧ Blk w9 w.heap.size 35 (ndC d (.slice A1 d.ms.length n1) (.slice A2 d.bys.length n2) (.slice (some ⟨b, off, none⟩) ks.length n3))) := ⟨HB.out.1.trans hbel9, (hgr9.block _ (by omega) (fun he => by have := (own_bk HM.out.1.1 _ he.symm).1; omega)).trans HB.out.2⟩
   obtain ⟨A9, c9, hv9, -⟩ := HP9.out.formL
   clear hown9 hgr9 hnil9 hbel9 HM
   go_wp2_with fail
   go_roundw
   case rel => exact ⟨k + 1, by omega, by go_num, HP9, HB9⟩
   case measure => simp [intOf]; omega
  ·have hlt2 : ¬ (k : Int) < (ks.length : Int) := by omega
   have hke : k = ks.length := by omega
   subst hke
   have HE : Box (postT (.node d ks) = postL ks ++ [d]) := ⟨by rw [postT]⟩
   have hm1 := postL_takeLe ks ks.length
   rw [List.take_length] at HP hm1 ⊢
   obtain ⟨L, hL⟩ : ∃ L, postL ks = L := ⟨_, rfl⟩
   rw [hL] at HP HE hm1 ⊢
   clear hL
   obtain ⟨cs, hown, hrow⟩ := HP.out
   have HM := Box.mk (And.intro hown hrow)
   have HI : Box (InsAt wr (fun b z => P b z ∧ b < w.heap.size) d (.slice A1 d.ms.length n1) (.slice A2 d.bys.length n2)) := ⟨⟨HTw.out.nod.ok, HTw.out.nod.ms, HTw.out.nod.bys⟩⟩
   have hzw := HS.out.1.size
   have hlw := HS.out.2.lt
   obtain ⟨k0, k1, k2, k3, k4, k5, k6, k7, k8, k9, k10⟩ := blk11z HS.out.2
   clear hown hrow HP
   go_wp2_with fail
   (with_reducible refine (rins_any d A1 A2 A3 d.ms.length n1 d.bys.length n2 ks.length n3 _).mono ?_)
   rintro e1 w1 ⟨rfl, hb1⟩
   have hz1 := hb1.size
   have HM1 : Box (w1.ownsRow (w.heap.size + 1) 55 10 (.slice AO L.length co) L.length ((L.zip cs).flatMap insL) ∧ InsRows w1 (fun b z => P b z ∧ b < w.heap.size) L cs ∧ InsAt w1 (fun b z => P b z ∧ b < w.heap.size) d (.slice A1 d.ms.length n1) (.slice A2 d.bys.length n2) ∧ Below w.heap.size w w1) := ⟨own_below HM.out.1 hb1, HM.out.2.keep (Agree.of_below hb1), HI.out.belo hb1, bthen HS.out.1 hb1 (Nat.le_refl _)⟩
   clear k0 k1 k2 k3 k4 k5 k6 k7 k8 k9 k10 HM HI hb1 HS
   go_wp2_with (at_builtin; refine wpList_append_own _ rfl _ _ 25 rfl (w.heap.size + 1) 55 i0 _ 10 120 Tryz.underlying25 HJ.out.1 HJ.out.2.1 HJ.out.2.2.1 HJ.out.2.2.2 rfl (by decide) (.slice AO L.length co) L.length ((L.zip cs).flatMap insL) rfl (own_below HM1.out.1 (bel1 _ _)) ⟨w1.heap.size, 0, none⟩ 1 1 (insL (d, .slice A1 d.ms.length n1, .slice A2 d.bys.length n2)) rfl rfl (World.news_of_block (Blk.new _ _ _)) (ins_one _ ⟨_, _, _, rfl⟩ ⟨_, _, _, rfl⟩) (by unfold maxLen; omega) (by omega) (by simp; omega) ?_; intro v9 w9 hown9 hgr9 hnil9)
   obtain ⟨A9, c9, rfl⟩ := own_form hown9
   go_wp2_with fail
   go_ret
   have hbel9 : Below w.heap.size w1 w9 := ((bel1 w1 _).mono (by omega)).grown hgr9 (by simp; omega) (fun k hk => by have := (own_bk HM1.out.1 k hk).1; omega)
   refine ⟨_, rfl, ?_, HM1.out.2.2.2.trans hbel9⟩
   rw [HE.out]
   exact (PlW.snoc HM1.out.2.1 HM1.out.2.2.1 hown9 (Agree.of_lt hbel9 fun b z h => h.2)).base (by omega)
end
end Go.Proofs.YtpgdijbfkahepaaGreatDoor
