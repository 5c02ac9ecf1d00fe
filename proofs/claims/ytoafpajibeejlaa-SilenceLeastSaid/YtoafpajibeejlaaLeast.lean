/- SilenceLeast: the walk. -/
import Derived.Test.YtoafpajibeejlaaCap
import Derived.Test.YtoafpajibeejlaaLeastM
import Derived.Deep.RegionHeld3
import Derived.Deep.DeepCutAuto
import Derived.Deep.CutBlock
set_option linter.unusedVariables false
set_option linter.unusedSimpArgs false
namespace Go.Proofs.Ytoafpajibeejlaa
open Go.RowKit

/-- what the loop knows -/
def LeRel (w : World) (v : Value) (lo : List OpR) (i : Value) (wr : World) : Prop :=
  ∃ (k : Nat) (sl : List Sil) (h : Int), k ≤ lo.length ∧ i = .int .i64 k ∧ sl.length ≤ k ∧ CapInv sl h ∧ CapSt w wr sl v lo
/-- behind the operation -/
def LeCut (w : World) (go k : Nat) (v : Value) (lo : List OpR) (cs : Array Value) (lv : Value) (ls : List Lab) (wx : World) : Prop :=
  ∃ (sl : List Sil) (h : Int), sl.length ≤ k + 1 ∧ CapInv sl h ∧ CapSt w wx sl v lo ∧ Blk wx go 42 cs ∧ Labs wx w.heap.size lv ls
/-- the search from the end -/
def LeIn (w7 : World) (sl : List Sil) (ls : List Lab) (cls tick : Int) (wv kv : Value) (wx : World) : Prop :=
  ∃ j : Nat, j ≤ sl.length ∧ kv = .int .i64 ((j : Int) - 1) ∧ ∃ v : Int, wv = .int .i64 v ∧ LeastW sl ls cls tick j v ∧ 0 ≤ v ∧ v ≤ sl.length ∧ Below w7.heap.size w7 wx
theorem own_put {w : World} {base g cap k : Nat} {l : List (Sil × Value)} {s : Sil} {mv : Value} {u : Int} (hown : w.ownsRow base 24 9 (.slice (some ⟨g, 0, none⟩) l.length cap) l.length (rowCells l)) (hk : l[k]? = some (s, mv)) :
    (w.setCell ⟨g, k * 9 + 8, none⟩ (.int .i64 u)).ownsRow base 24 9 (.slice (some ⟨g, 0, none⟩) (l.set k ({ s with hd := u }, mv)).length cap) (l.set k ({ s with hd := u }, mv)).length (rowCells (l.set k ({ s with hd := u }, mv))) ∧ Fr base [24] w (w.setCell ⟨g, k * 9 + 8, none⟩ (.int .i64 u)) := by
  have := (hown.stored (k * 9 + 8) (.int .i64 u)).1
  rw [row_hidden l k s mv u hk] at this
  refine ⟨by rw [List.length_set]; exact this, Fr.setAt (Fr.refl _ _ _) (own_ty hown g rfl).2 (by decide) (own_ty hown g rfl).1 _ _⟩
theorem sils_put {w w' : World} {base k : Nat} {l : List (Sil × Value)} {s s' : Sil} {mv : Value} (h : SilsOk w base l) (hf : Fr base [24] w w') (hk : l[k]? = some (s, mv)) (hms : s'.ms = s.ms) : SilsOk w' base (l.set k (s', mv)) := by
  intro x hx
  rcases List.mem_or_eq_of_mem_set hx with hx | hx
  · exact h.keep hf (by decide) x hx
  · subst hx
    have := h.keep hf (by decide) (s, mv) (List.mem_of_getElem? hk)
    simp only [hms] at this ⊢
    exact this
theorem own_free {w : World} {B t size n g c : Nat} {xs : List Value} (h : w.ownsRow B t size (.slice (some ⟨g, 0, none⟩) n c) n xs) : ∀ o, w.frozen? ⟨g, o, none⟩ = false := by
  rcases h.2 with ⟨h1, h2⟩ | ⟨g', cap, cur, hv, _, hh, _⟩
  · cases h1
  · cases hv
    intro o
    simp [World.frozen?, hh]
theorem own_at {w : World} {B t size n : Nat} {A : Option Addr} {c : Nat} {xs : List Value} (h : w.ownsRow B t size (.slice A n c) n xs) (hn : 0 < n) : ∃ g, A = some ⟨g, 0, none⟩ := by
  rcases h.2 with ⟨h1, h2⟩ | ⟨g, cap, cur, hv, _⟩
  · cases h1; omega
  · cases hv; exact ⟨g, rfl⟩

set_option maxRecDepth 100000 in
set_option maxHeartbeats 4000000 in
theorem least_walk (ops_any : OpsC) (A : Option Addr) (n c : Nat) (l : List Int) (w : World) (h : Ints w w.heap.size (.slice A n c) l) :
    Calls Try.prog 8 #[.slice A n c] w fun e w' => e = .returned (.bool true) ∧ Below w.heap.size w w' := by
  have HI := Lib.hid h
  clear h
  go_enter Try.func8, Try.ntmps8
  go_wp2_with (first
    | (go_at_call 19; refine (new_any _).mono ?_; rintro e w1 ⟨rfl, rfl⟩)
    | (go_at_call 16
       refine (ops_any _ _ _ w.heap.size l _ (by exact HI.out.below (bel1 _ _)) (by simp)).mono ?_
       rintro e w1 ⟨lo, A1, c1, rfl, ho1, hlo, hb1⟩
       have HS1 : Hid (CapSt w w1 [] (.slice A1 lo.length c1) lo) := ⟨⟨[], (new_book w _ (Nat.le_refl _)).below hb1, rfl⟩, ho1, (Fr.of_below (bel1 _ _)).then_ hb1⟩
       clear ho1 hb1))
  go_loopw [5] (fun i wr => LeRel w (.slice A1 lo.length c1) lo i wr) (fun i _ => lo.length - (intOf i).toNat)
  case atStart => exact ⟨0, [], 0, by omega, rfl, by simp, ⟨rfl, fun i s hs => by simp at hs⟩, HS1.out⟩
  case round =>
    obtain ⟨k, sl, h, hk, rfl, hlen, hinv, hst⟩ := hrel
    have hsz := hst.2.2.size
    by_cases hlt : k < lo.length
    · obtain ⟨kind, s, A2, n2, c2, oid, ow, tick, til, cls, A3, n3, c3, ls, b, off, hx, rfl, hb, hat, hmx, hlx, hgf, ⟨k0, k3⟩, ⟨o1, o5⟩, ⟨t0, t1⟩, ⟨u0, u1⟩, ⟨cl0, cl1⟩, hl6, hgl⟩ := hst.2.1.open_ k hlt
      obtain ⟨dd, hdu, hdr⟩ := opUnder
      have HD := Lib.hid (And.intro hdu hdr)
      have HAT := Lib.hid hat
      have HST := Lib.hid (And.intro hinv (And.intro hst (And.intro hmx (And.intro hlx hgf))))
      clear hinv hst hmx hlx hgf hgl hat hx hdu hdr
      go_upto_region 7 with (first | (refine wpList_load_mid rfl 42 (.tmp 23) rfl b (off + k * 22) rfl _ _ HAT.out HD.out.1 HD.out.2 opSize ?_) | (refine wpList_store_new rfl 42 (.tmp 6) (.tmp 24) rfl _ (by simp) _ _ rfl rfl (by kernel_rfl) rfl (by simp [Value.oneCell']) ?_))
      have HW1 : Hid (Blk (wr.alloc (.cells #[.int .i64 kind, .int .i64 s.id, .slice A2 n2 c2, .string s.ow, .string s.se, .int .i64 s.cl, .int .i64 s.fr, .int .i64 s.un, .int .i64 s.cp, .int .i64 s.hd, .int .i64 oid, .string ow, .int .i64 tick, .int .i64 til, .int .i64 cls, .int .i64 0, .string ⟨#[114]⟩, .int .i64 1, .slice A3 n3 c3, .int .i64 tick, .int .i64 0, .string ⟨#[]⟩] 42)) wr.heap.size 42 #[.int .i64 kind, .int .i64 s.id, .slice A2 n2 c2, .string s.ow, .string s.se, .int .i64 s.cl, .int .i64 s.fr, .int .i64 s.un, .int .i64 s.cp, .int .i64 s.hd, .int .i64 oid, .string ow, .int .i64 tick, .int .i64 til, .int .i64 cls, .int .i64 0, .string ⟨#[114]⟩, .int .i64 1, .slice A3 n3 c3, .int .i64 tick, .int .i64 0, .string ⟨#[]⟩] ∧ CapSt w (wr.alloc (.cells #[.int .i64 kind, .int .i64 s.id, .slice A2 n2 c2, .string s.ow, .string s.se, .int .i64 s.cl, .int .i64 s.fr, .int .i64 s.un, .int .i64 s.cp, .int .i64 s.hd, .int .i64 oid, .string ow, .int .i64 tick, .int .i64 til, .int .i64 cls, .int .i64 0, .string ⟨#[114]⟩, .int .i64 1, .slice A3 n3 c3, .int .i64 tick, .int .i64 0, .string ⟨#[]⟩] 42)) sl (.slice (some ⟨b, off, none⟩) lo.length c1) lo ∧ Mats (wr.alloc (.cells #[.int .i64 kind, .int .i64 s.id, .slice A2 n2 c2, .string s.ow, .string s.se, .int .i64 s.cl, .int .i64 s.fr, .int .i64 s.un, .int .i64 s.cp, .int .i64 s.hd, .int .i64 oid, .string ow, .int .i64 tick, .int .i64 til, .int .i64 cls, .int .i64 0, .string ⟨#[114]⟩, .int .i64 1, .slice A3 n3 c3, .int .i64 tick, .int .i64 0, .string ⟨#[]⟩] 42)) w.heap.size (.slice A2 n2 c2) s.ms ∧ Labs (wr.alloc (.cells #[.int .i64 kind, .int .i64 s.id, .slice A2 n2 c2, .string s.ow, .string s.se, .int .i64 s.cl, .int .i64 s.fr, .int .i64 s.un, .int .i64 s.cp, .int .i64 s.hd, .int .i64 oid, .string ow, .int .i64 tick, .int .i64 til, .int .i64 cls, .int .i64 0, .string ⟨#[114]⟩, .int .i64 1, .slice A3 n3 c3, .int .i64 tick, .int .i64 0, .string ⟨#[]⟩] 42)) w.heap.size (.slice A3 n3 c3) ls) := ⟨Blk.new _ _ _, HST.out.2.1.next (bel1 _ _), HST.out.2.2.1.below (bel1 _ _), HST.out.2.2.2.1.below (bel1 _ _)⟩
      generalize wr.alloc (.cells #[.int .i64 kind, .int .i64 s.id, .slice A2 n2 c2, .string s.ow, .string s.se, .int .i64 s.cl, .int .i64 s.fr, .int .i64 s.un, .int .i64 s.cp, .int .i64 s.hd, .int .i64 oid, .string ow, .int .i64 tick, .int .i64 til, .int .i64 cls, .int .i64 0, .string ⟨#[114]⟩, .int .i64 1, .slice A3 n3 c3, .int .i64 tick, .int .i64 0, .string ⟨#[]⟩] 42) = W1 at HW1 ⊢
      obtain ⟨d0, d1, d2, d3, d4, d5, d6, d7, d8, d9, d10, d11, d12, d13, d14, d15, d16, d17, d18, d19, d20, d21⟩ := HW1.out.1.twentytwo
      have HG := Lib.hid (And.intro HST.out.1 HST.out.2.2.2.2)
      have hz1 : w.heap.size ≤ W1.heap.size := HW1.out.2.1.2.2.size
      have hp1 : wr.heap.size < W1.heap.size := HW1.out.1.ty.lt
      clear HST HAT HD
      obtain ⟨⟨l1, hbk1, hmap1⟩, _⟩ := HW1.out.2.1
      have HB1 := Lib.hid (And.intro hbk1 hmap1)
      have hl1 : l1.length ≤ 10000 := by rw [mapLen hmap1]; omega
      clear hbk1 hmap1
      go_upto_block 2 with fail
      go_cut [] (fun wx => LeCut w wr.heap.size k (.slice (some ⟨b, off, none⟩) lo.length c1) lo #[.int .i64 kind, .int .i64 s.id, .slice A2 n2 c2, .string s.ow, .string s.se, .int .i64 s.cl, .int .i64 s.fr, .int .i64 s.un, .int .i64 s.cp, .int .i64 s.hd, .int .i64 oid, .string ow, .int .i64 tick, .int .i64 til, .int .i64 cls, .int .i64 0, .string ⟨#[114]⟩, .int .i64 1, .slice A3 n3 c3, .int .i64 tick, .int .i64 0, .string ⟨#[]⟩] (.slice A3 n3 c3) ls wx)
      case first => as_aux_lemma =>
        rcases (show kind = 0 ∨ kind = 1 ∨ kind = 2 ∨ kind = 3 by omega) with rfl | rfl | rfl | rfl
        · obtain ⟨⟨⟨r1, r2⟩, sl2⟩, hM⟩ : ∃ x, openM sl s tick = x := ⟨_, rfl⟩
          have hf2 := openM_fit (sl := sl) (s := s) (tick := tick) HG.out.1.fit (by have := HG.out.2; unfold GFit at this; omega)
          have HI2 : Hid (CapInv sl2 h) := by have := capinv_open HG.out.1 s tick; rw [hM] at this; exact this
          have hln2 : sl2.length ≤ k + 1 := by have := hf2.2; rw [hM] at this; simp only at this; omega
          have HM := Lib.hid hM
          clear hM hf2
          go_wp2_with (go_at_call 20
                       refine (bopen_eq w.heap.size w.heap.size l1 s _ _ _ tick _ sl r1 r2 sl2 HB1.out.1 hz1 HW1.out.2.2.1 HG.out.2.1 hl1 HB1.out.2 HM.out).mono ?_
                       rintro e w2 hr
                       have HBK2 : Hid (Blk w2 wr.heap.size 42 #[.int .i64 0, .int .i64 s.id, .slice A2 n2 c2, .string s.ow, .string s.se, .int .i64 s.cl, .int .i64 s.fr, .int .i64 s.un, .int .i64 s.cp, .int .i64 s.hd, .int .i64 oid, .string ow, .int .i64 tick, .int .i64 til, .int .i64 cls, .int .i64 0, .string ⟨#[114]⟩, .int .i64 1, .slice A3 n3 c3, .int .i64 tick, .int .i64 0, .string ⟨#[]⟩] ∧ Labs w2 w.heap.size (.slice A3 n3 c3) ls) := by
                         obtain ⟨_, _, _, _, hf⟩ := hr
                         exact ⟨HW1.out.1.keep hf (by decide), HW1.out.2.2.2.keep hf (by decide)⟩
                       obtain ⟨rfl, hs2⟩ := HW1.out.2.1.ret hr
                       have HS2 := Lib.hid hs2
                       clear hr hs2)
          go_meet
          exact ⟨sl2, h, hln2, HI2.out, HS2.out, HBK2.out.1, HBK2.out.2⟩
        · obtain ⟨⟨r1, sl2⟩, hM⟩ : ∃ x, extendM sl oid ow tick til = x := ⟨_, rfl⟩
          have hf2 := extendM_fit (sl := sl) (id := oid) (p := ow) (tick := tick) (til := til) HG.out.1.fit
          have HI2 : Hid (CapInv sl2 h) := by have := capinv_extend HG.out.1 oid ow tick til; rw [hM] at this; exact this
          have hln2 : sl2.length ≤ k + 1 := by have := hf2.2; rw [hM] at this; simp only at this; omega
          have HM := Lib.hid hM
          clear hM hf2
          go_wp2_with (go_at_call 23
                       refine (extend_eq w.heap.size w.heap.size l1 oid tick til ow _ sl r1 sl2 HB1.out.1 hl1 (by omega) (by omega) (by omega) (by omega) (by omega) HB1.out.2 HM.out).mono ?_
                       rintro e w2 hr
                       have HBK2 : Hid (Blk w2 wr.heap.size 42 #[.int .i64 1, .int .i64 s.id, .slice A2 n2 c2, .string s.ow, .string s.se, .int .i64 s.cl, .int .i64 s.fr, .int .i64 s.un, .int .i64 s.cp, .int .i64 s.hd, .int .i64 oid, .string ow, .int .i64 tick, .int .i64 til, .int .i64 cls, .int .i64 0, .string ⟨#[114]⟩, .int .i64 1, .slice A3 n3 c3, .int .i64 tick, .int .i64 0, .string ⟨#[]⟩] ∧ Labs w2 w.heap.size (.slice A3 n3 c3) ls) := by
                         obtain ⟨_, _, _, _, hf⟩ := hr
                         exact ⟨HW1.out.1.keep hf (by decide), HW1.out.2.2.2.keep hf (by decide)⟩
                       obtain ⟨rfl, hs2⟩ := HW1.out.2.1.ret hr
                       have HS2 := Lib.hid hs2
                       clear hr hs2)
          go_meet
          exact ⟨sl2, h, hln2, HI2.out, HS2.out, HBK2.out.1, HBK2.out.2⟩
        · obtain ⟨⟨r1, sl2⟩, hM⟩ : ∃ x, endM sl oid ow tick = x := ⟨_, rfl⟩
          have hf2 := endM_fit (sl := sl) (id := oid) (p := ow) (tick := tick) HG.out.1.fit
          have HI2 : Hid (CapInv sl2 h) := by have := capinv_end HG.out.1 oid ow tick; rw [hM] at this; exact this
          have hln2 : sl2.length ≤ k + 1 := by have := hf2.2; rw [hM] at this; simp only at this; omega
          have HM := Lib.hid hM
          clear hM hf2
          go_wp2_with (go_at_call 28
                       refine (end_eq w.heap.size w.heap.size l1 oid tick ow _ sl r1 sl2 HB1.out.1 hl1 (by omega) HB1.out.2 HM.out).mono ?_
                       rintro e w2 hr
                       have HBK2 : Hid (Blk w2 wr.heap.size 42 #[.int .i64 2, .int .i64 s.id, .slice A2 n2 c2, .string s.ow, .string s.se, .int .i64 s.cl, .int .i64 s.fr, .int .i64 s.un, .int .i64 s.cp, .int .i64 s.hd, .int .i64 oid, .string ow, .int .i64 tick, .int .i64 til, .int .i64 cls, .int .i64 0, .string ⟨#[114]⟩, .int .i64 1, .slice A3 n3 c3, .int .i64 tick, .int .i64 0, .string ⟨#[]⟩] ∧ Labs w2 w.heap.size (.slice A3 n3 c3) ls) := by
                         obtain ⟨_, _, _, _, hf⟩ := hr
                         exact ⟨HW1.out.1.keep hf (by decide), HW1.out.2.2.2.keep hf (by decide)⟩
                       obtain ⟨rfl, hs2⟩ := HW1.out.2.1.ret hr
                       have HS2 := Lib.hid hs2
                       clear hr hs2)
          go_meet
          exact ⟨sl2, h, hln2, HI2.out, HS2.out, HBK2.out.1, HBK2.out.2⟩
        · go_wp2
          go_meet
          exact ⟨sl, h, by omega, HG.out.1, HW1.out.2.1, HW1.out.1, HW1.out.2.2.2⟩
      case rest => as_aux_lemma =>
        clear d0 d1 d2 d3 d4 d5 d6 d7 d8 d9 d10 d11 d12 d13 d14 d15 d16 d17 d18 d19 d20 d21 HW1 HB1 hl1 l1 hz1 hp1 HG
        obtain ⟨sl2, h2, hln2, hinv2, hst2, hblk2, hlab2⟩ := hcut
        obtain ⟨W2, hW2⟩ : ∃ x, x = wc := ⟨_, rfl⟩
        subst hW2
        obtain ⟨go, hgo⟩ : ∃ x, wr.heap.size = x := ⟨_, rfl⟩
        rw [hgo] at hblk2 ⊢
        have hz2 : w.heap.size ≤ W2.heap.size := hst2.2.2.size
        have hol2 : go < W2.heap.size := hblk2.ty.lt
        obtain ⟨l2, hb2, hm2⟩ := hst2.1
        have hl2 : l2.length ≤ 10000 := by rw [mapLen hm2]; omega
        have HB2 := Lib.hid (And.intro hb2 hm2)
        have HS2 := Lib.hid (And.intro hst2 (And.intro hblk2 (And.intro hlab2 hinv2)))
        clear hb2 hm2 hst2 hblk2 hlab2 hinv2
        go_wp2_with (go_at_call 21
                     refine (all_any w.heap.size w.heap.size l2 _ HB2.out.1 (by omega) hz2).mono ?_
                     rintro e w7 ⟨A7, n7, c7, l7, rfl, hm7, ho7, hk7, hb7⟩
                     obtain ⟨A7', c7', hv7⟩ := own_form ho7
                     have hn7 : n7 = l7.length := by injection hv7
                     subst hn7
                     have HS7 : Hid (CapSt w w7 sl2 (.slice (some ⟨b, off, none⟩) lo.length c1) lo ∧ Blk w7 go 42 #[.int .i64 kind, .int .i64 s.id, .slice A2 n2 c2, .string s.ow, .string s.se, .int .i64 s.cl, .int .i64 s.fr, .int .i64 s.un, .int .i64 s.cp, .int .i64 s.hd, .int .i64 oid, .string ow, .int .i64 tick, .int .i64 til, .int .i64 cls, .int .i64 0, .string ⟨#[114]⟩, .int .i64 1, .slice A3 n3 c3, .int .i64 tick, .int .i64 0, .string ⟨#[]⟩] ∧ Labs w7 w.heap.size (.slice A3 n3 c3) ls ∧ CapInv sl2 h2) := ⟨HS2.out.1.next hb7, HS2.out.2.1.below hb7, HS2.out.2.2.1.below hb7, HS2.out.2.2.2⟩
                     have HL7 : Hid (l7.map Prod.fst = sl2 ∧ w7.ownsRow w.heap.size 24 9 (.slice A7 l7.length c7) l7.length (rowCells l7) ∧ SilsOk w7 w.heap.size l7) := ⟨by rw [hm7]; exact HB2.out.2, own_base ho7 (by omega), hk7⟩
                     have hl7 : sl2.length = l7.length := (mapLen HL7.out.1).symm
                     have HLN := Lib.hid hl7
                     have hol7 : go < w7.heap.size := Nat.lt_of_lt_of_le hol2 hb7.size
                     have hz7 : w.heap.size ≤ w7.heap.size := Nat.le_trans hz2 hb7.size
                     have hl14 : l7.length ≤ 15 := by omega
                     clear hm7 ho7 hk7 hb7 hv7 hl7)
        obtain ⟨wo, rfl⟩ : ∃ wo : World, wo = wr := ⟨_, rfl⟩
        go_loopw [8, 9] (fun wv kv wx => LeIn w7 sl2 ls cls tick wv kv wx) (fun _ kv _ => (intOf kv + 1).toNat)
        case atStart => exact ⟨sl2.length, Nat.le_refl _, by rw [HLN.out], 0, rfl, LeastW.start _ _ _ _, by omega, by omega, Below.refl _ _⟩
        case round =>
          obtain ⟨j, hj, rfl, v, rfl, hlw, hv0, hv1, hbx⟩ := hrel
          have hszx := hbx.size
          have HBX := Lib.hid hbx
          have HLW := Lib.hid hlw
          clear hbx hlw
          rcases j with _ | j
          · have hj0 : ((((0 : Nat) : Int)) - 1) = -1 := by omega
            rw [hj0]
            clear hj0 hj
            have HS8 : Hid (CapSt w wr sl2 (.slice (some ⟨b, off, none⟩) lo.length c1) lo ∧ Blk wr go 42 #[.int .i64 kind, .int .i64 s.id, .slice A2 n2 c2, .string s.ow, .string s.se, .int .i64 s.cl, .int .i64 s.fr, .int .i64 s.un, .int .i64 s.cp, .int .i64 s.hd, .int .i64 oid, .string ow, .int .i64 tick, .int .i64 til, .int .i64 cls, .int .i64 0, .string ⟨#[114]⟩, .int .i64 1, .slice A3 n3 c3, .int .i64 tick, .int .i64 0, .string ⟨#[]⟩] ∧ Labs wr w.heap.size (.slice A3 n3 c3) ls) := ⟨HS7.out.1.next HBX.out, HS7.out.2.1.below HBX.out, HS7.out.2.2.1.below HBX.out⟩
            have HL8 : Hid (wr.ownsRow w.heap.size 24 9 (.slice A7 l7.length c7) l7.length (rowCells l7) ∧ SilsOk wr w.heap.size l7) := ⟨own_below HL7.out.2.1 HBX.out, HL7.out.2.2.below HBX.out⟩
            obtain ⟨e0, e1, e2, e3, e4, e5, e6, e7, e8, e9, e10, e11, e12, e13, e14, e15, e16, e17, e18, e19, e20, e21⟩ := HS8.out.2.1.twentytwo
            have hz8 : w.heap.size ≤ wr.heap.size := HS8.out.1.2.2.size
            obtain ⟨l8, hb8, hm8⟩ := HS8.out.1.1
            have hl8 : l8.length ≤ 10000 := by rw [mapLen hm8]; omega
            have HB8 := Lib.hid (And.intro hb8 hm8)
            have HCI := Lib.hid HS7.out.2.2.2
            have HMP := Lib.hid HL7.out.1
            clear hb8 hm8 HS7 HL7 HBX HS2 HB2
            rcases HLW.out.hide HCI.out with ⟨hv, hno⟩ | ⟨i, s', hs', hv, hyes, hinv3, hd0, hd1⟩
            · subst hv
              have HM := Lib.hid hno
              clear hno HLW
              go_wp2_with (first
                | (go_at_call 24
                   refine (hide_eq w.heap.size w.heap.size l8 _ _ _ _ _ _ _ _ _ ls cls tick _ sl2 0 false sl2 HB8.out.1 hz8 hl8 HS8.out.2.2 HCI.out.fit HB8.out.2 HM.out).mono ?_
                   rintro e w9 hr
                   have HL9 : Hid (Sils w9 w.heap.size 24 (.slice A7 l7.length c7) l7) := by
                     obtain ⟨_, _, _, _, hf⟩ := hr
                     exact Sils.keep ⟨Seq.of_own HL8.out.1, HL8.out.2⟩ hf (by decide) (by decide)
                   obtain ⟨rfl, hs9⟩ := HS8.out.1.ret hr
                   have hz9 : w.heap.size ≤ w9.heap.size := hs9.2.2.size
                   obtain ⟨l9, hb9, hm9⟩ := hs9.1
                   have hl9 : l9.length ≤ 10000 := by rw [mapLen hm9]; omega
                   have HB9 := Lib.hid (And.intro hb9 hm9)
                   have HS9 := Lib.hid hs9
                   clear hr hs9 hb9 hm9)
                | (go_at_call 21
                   refine (all_any w.heap.size w.heap.size l9 _ HB9.out.1 (by omega) hz9).mono ?_
                   rintro e w10 ⟨A10, n10, c10, l10, rfl, hm10, ho10, hk10, hb10⟩
                   obtain ⟨A10', c10', hv10⟩ := own_form ho10
                   have hn10 : n10 = l10.length := by injection hv10
                   subst hn10
                   have HS10 : Hid (Sils w10 w.heap.size 24 (.slice A10 l10.length c10) l10 ∧ Sils w10 w.heap.size 24 (.slice A7 l7.length c7) l7 ∧ l10.map Prod.fst = l7.map Prod.fst ∧ CapSt w w10 sl2 (.slice (some ⟨b, off, none⟩) lo.length c1) lo) := ⟨⟨Seq.of_own ho10, hk10⟩, HL9.out.below hb10, by rw [hm10, HB9.out.2, HMP.out], HS9.out.next hb10⟩
                   clear hm10 ho10 hk10 hb10 hv10)
                | (go_at_call 27
                   refine (same_any _ _ _ _ _ _ w.heap.size l10 l7 _ HS10.out.1 HS10.out.2.1 HS10.out.2.2.1).mono ?_
                   rintro e w11 ⟨rfl, hb11⟩
                   have HS11 := Lib.hid (HS10.out.2.2.2.next hb11)
                   clear hb11))
              go_roundw
              case rel => exact ⟨k + 1, sl2, h2, by omega, by go_num, by omega, HCI.out, HS11.out⟩
              case measure => simp [intOf]; omega
            · subst hv
              have hil : i < sl2.length := (List.getElem?_eq_some_iff.1 hs').1
              have hil7 : i < l7.length := by rw [← HLN.out]; exact hil
              obtain ⟨g7, hg7⟩ := own_at HL8.out.1 (by omega)
              subst hg7
              obtain ⟨mv, hx7⟩ := map_get HMP.out hs'
              obtain ⟨sl3, hsl3⟩ : ∃ y, sl2.set i { s' with hd := s'.hd + 1 } = y := ⟨_, rfl⟩
              rw [hsl3] at hyes hinv3
              have hln3 : sl3.length ≤ k + 1 := by rw [← hsl3]; simpa using hln2
              have HM := Lib.hid hyes
              have HI3 := Lib.hid hinv3
              have HX7 := Lib.hid (And.intro hx7 hsl3)
              have hwp : decide ((0 : Int) < (i : Int) + 1) = true := decide_eq_true (by omega)
              clear hyes hinv3 hx7 hs' hsl3 HLW
              go_wp2_with (first
                | (go_at_call 24
                   refine (hide_eq w.heap.size w.heap.size l8 _ _ _ _ _ _ _ _ _ ls cls tick _ sl2 _ true sl3 HB8.out.1 hz8 hl8 HS8.out.2.2 HCI.out.fit HB8.out.2 HM.out).mono ?_
                   rintro e w9 hr
                   have HL9 : Hid (w9.ownsRow w.heap.size 24 9 (.slice (some ⟨g7, 0, none⟩) l7.length c7) l7.length (rowCells l7) ∧ SilsOk w9 w.heap.size l7) := by
                     obtain ⟨_, _, _, _, hf⟩ := hr
                     exact ⟨own_fr HL8.out.1 hf (by decide), HL8.out.2.keep hf (by decide)⟩
                   obtain ⟨rfl, hs9⟩ := HS8.out.1.ret hr
                   have hput := own_put (u := s'.hd + 1) HL9.out.1 HX7.out.1
                   have hsp := sils_put (s' := { s' with hd := s'.hd + 1 }) HL9.out.2 hput.2 HX7.out.1 rfl
                   have hz9 : w.heap.size ≤ (w9.setCell ⟨g7, i * 9 + 8, none⟩ (.int .i64 (s'.hd + 1))).heap.size := by have := hs9.2.2.size; simp [World.setCell]; omega
                   obtain ⟨l9, hb9, hm9⟩ := hs9.1
                   have hl9 : l9.length ≤ 10000 := by rw [mapLen hm9]; omega
                   have HB9 := Lib.hid (And.intro (hb9.keep hput.2 (by decide) (by decide) (by decide)) hm9)
                   have HS9 : Hid (CapSt w (w9.setCell ⟨g7, i * 9 + 8, none⟩ (.int .i64 (s'.hd + 1))) sl3 (.slice (some ⟨b, off, none⟩) lo.length c1) lo) := ⟨⟨l9, HB9.out⟩, hs9.2.1.keep hput.2 (by decide) (by decide) (by decide), hs9.2.2.trans (hput.2.more (by simp [TT]))⟩
                   have HP9 : Hid (Sils (w9.setCell ⟨g7, i * 9 + 8, none⟩ (.int .i64 (s'.hd + 1))) w.heap.size 24 (.slice (some ⟨g7, 0, none⟩) l7.length c7) (l7.set i ({ s' with hd := s'.hd + 1 }, mv))) := by
                     have := Seq.of_own (base' := w.heap.size) hput.1
                     rw [List.length_set] at this
                     exact ⟨by rw [List.length_set]; exact this, hsp⟩
                   obtain ⟨bb, oo, hq, hbb, ⟨y0, y1, y2, y3, y4, y5, y6, y7, y8⟩, _, _⟩ := Sils.at_ ⟨Seq.of_own (base' := w.heap.size) HL9.out.1, HL9.out.2⟩ i _ HX7.out.1
                   cases hq
                   have hfz := (own_free HL9.out.1) (i * 9 + 8)
                   simp only [Nat.zero_add] at y0 y1 y2 y3 y4 y5 y6 y7 y8
                   clear hr hs9 hb9 hm9 hput hsp)
                | (go_at_call 21
                   refine (all_any w.heap.size w.heap.size l9 _ HB9.out.1 (by omega) hz9).mono ?_
                   rintro e w10 ⟨A10, n10, c10, l10, rfl, hm10, ho10, hk10, hb10⟩
                   obtain ⟨A10', c10', hv10⟩ := own_form ho10
                   have hn10 : n10 = l10.length := by injection hv10
                   subst hn10
                   have HS10 : Hid (Sils w10 w.heap.size 24 (.slice A10 l10.length c10) l10 ∧ Sils w10 w.heap.size 24 (.slice (some ⟨g7, 0, none⟩) l7.length c7) (l7.set i ({ s' with hd := s'.hd + 1 }, mv)) ∧ l10.map Prod.fst = (l7.set i ({ s' with hd := s'.hd + 1 }, mv)).map Prod.fst ∧ CapSt w w10 sl3 (.slice (some ⟨b, off, none⟩) lo.length c1) lo) := ⟨⟨Seq.of_own ho10, hk10⟩, HP9.out.below hb10, by rw [hm10, HB9.out.2, map_set, HMP.out, HX7.out.2], HS9.out.next hb10⟩
                   clear hm10 ho10 hk10 hb10 hv10)
                | (go_at_call 27
                   refine (same_any _ _ _ _ _ _ w.heap.size l10 (l7.set i ({ s' with hd := s'.hd + 1 }, mv)) _ HS10.out.1 HS10.out.2.1 HS10.out.2.2.1).mono ?_
                   rintro e w11 ⟨rfl, hb11⟩
                   have HS11 := Lib.hid (HS10.out.2.2.2.next hb11)
                   clear hb11))
              go_roundw
              case rel => exact ⟨k + 1, sl3, h2 + 1, by omega, by go_num, hln3, HI3.out, HS11.out⟩
              case measure => simp [intOf]; omega
          · have hj1 : ((((j + 1 : Nat) : Int)) - 1) = (j : Int) := by omega
            rw [hj1]
            clear hj1
            have hjl7 : j < l7.length := by rw [← HLN.out]; omega
            obtain ⟨g7, hg7⟩ := own_at HL7.out.2.1 (by omega)
            subst hg7
            obtain ⟨s', hs'⟩ : ∃ x, sl2[j]? = some x := ⟨sl2[j], List.getElem?_eq_getElem _⟩
            have HX := Lib.hid hs'
            obtain ⟨mv, hx7⟩ := map_get HL7.out.1 hs'
            obtain ⟨bb, oo, hq, hbb, ⟨y0, y1, y2, y3, y4, y5, y6, y7, y8⟩, hmx, _⟩ := (Sils.at_ (Sils.below ⟨Seq.of_own (base' := w.heap.size) HL7.out.2.1, HL7.out.2.2⟩ HBX.out) j _ hx7)
            cases hq
            obtain ⟨A1, cp1, hmv⟩ := hmx.form
            simp only at hmv
            subst hmv
            have HMX := Lib.hid hmx
            have HLr := Lib.hid (HS7.out.2.2.1.below HBX.out)
            obtain ⟨e0, e1, e2, e3, e4, e5, e6, e7, e8, e9, e10, e11, e12, e13, e14, e15, e16, e17, e18, e19, e20, e21⟩ := (HS7.out.2.1.below HBX.out).twentytwo
            have hgl : g7 < wr.heap.size := hbb
            have hol : go < wr.heap.size := by omega
            clear hx7 hs' hmx hbb
            obtain ⟨i, ms, ow', se, cl, fr, un, cp, hd⟩ := s'
            simp only [Nat.zero_add] at y0 y1 y2 y3 y4 y5 y6 y7 y8
            by_cases hq : covS ⟨i, ms, ow', se, cl, fr, un, cp, hd⟩ ls cls tick = true
            · have hq2 : coversB cl fr un cp hd ms ls cls tick = true := hq
              have HW2 := Lib.hid (LeastW.yes HX.out hq)
              go_wp2
              go_region_held3 (fun w' => w'.cell? ⟨g7, j * 9, none⟩ = some (.int .i64 i) ∧ w'.cell? ⟨g7, j * 9 + 1, none⟩ = some (.slice A1 ms.length cp1) ∧ w'.cell? ⟨g7, j * 9 + 2, none⟩ = some (.string ow') ∧ w'.cell? ⟨g7, j * 9 + 3, none⟩ = some (.string se) ∧ w'.cell? ⟨g7, j * 9 + 4, none⟩ = some (.int .i64 cl) ∧ w'.cell? ⟨g7, j * 9 + 5, none⟩ = some (.int .i64 fr) ∧ w'.cell? ⟨g7, j * 9 + 6, none⟩ = some (.int .i64 un) ∧ w'.cell? ⟨g7, j * 9 + 7, none⟩ = some (.int .i64 cp) ∧ w'.cell? ⟨g7, j * 9 + 8, none⟩ = some (.int .i64 hd) ∧ w'.cell? ⟨go, 12, none⟩ = some (.int .i64 tick) ∧ w'.cell? ⟨go, 14, none⟩ = some (.int .i64 cls) ∧ w'.cell? ⟨go, 15, none⟩ = some (.int .i64 0) ∧ w'.cell? ⟨go, 16, none⟩ = some (.string ⟨#[114]⟩) ∧ w'.cell? ⟨go, 17, none⟩ = some (.int .i64 1) ∧ w'.cell? ⟨go, 18, none⟩ = some (.slice A3 n3 c3) ∧ w'.cell? ⟨go, 19, none⟩ = some (.int .i64 tick) ∧ w'.cell? ⟨go, 20, none⟩ = some (.int .i64 0) ∧ w'.cell? ⟨go, 21, none⟩ = some (.string ⟨#[]⟩)) (first | go_keep | exact ⟨bat hb1 hgl y0, bat hb1 hgl y1, bat hb1 hgl y2, bat hb1 hgl y3, bat hb1 hgl y4, bat hb1 hgl y5, bat hb1 hgl y6, bat hb1 hgl y7, bat hb1 hgl y8, bat hb1 hol e12, bat hb1 hol e14, bat hb1 hol e15, bat hb1 hol e16, bat hb1 hol e17, bat hb1 hol e18, bat hb1 hol e19, bat hb1 hol e20, bat hb1 hol e21⟩)
                (first | (go_at_call 17; refine (covers_any _ _ _ _ _ _ _ _ _ _ _ _ _ _ _ _ _ _ _ _ w.heap.size ms ls _ _ _ (by exact HMX.out) (by exact HLr.out)).mono ?_; rintro e w1 ⟨rfl, hb1⟩))
              have HB2 : Hid (Below w7.heap.size w7 w1) := HBX.out.drew.trans (hb1.mono hszx)
              clear hb1 y0 y1 y2 y3 y4 y5 y6 y7 y8 e0 e1 e2 e3 e4 e5 e6 e7 e8 e9 e10 e11 e12 e13 e14 e15 e16 e17 e18 e19 e20 e21
              go_wp2
              go_roundw
              case rel => exact ⟨j, by omega, by go_num, (j : Int) + 1, rfl, HW2.out, by omega, by omega, HB2.out⟩
              case measure => simp [intOf]
            · have hq : covS ⟨i, ms, ow', se, cl, fr, un, cp, hd⟩ ls cls tick = false := by simpa using hq
              have hq2 : coversB cl fr un cp hd ms ls cls tick = false := hq
              have HW2 := Lib.hid (LeastW.no HLW.out HX.out hq)
              go_wp2
              go_region_held3 (fun w' => w'.cell? ⟨g7, j * 9, none⟩ = some (.int .i64 i) ∧ w'.cell? ⟨g7, j * 9 + 1, none⟩ = some (.slice A1 ms.length cp1) ∧ w'.cell? ⟨g7, j * 9 + 2, none⟩ = some (.string ow') ∧ w'.cell? ⟨g7, j * 9 + 3, none⟩ = some (.string se) ∧ w'.cell? ⟨g7, j * 9 + 4, none⟩ = some (.int .i64 cl) ∧ w'.cell? ⟨g7, j * 9 + 5, none⟩ = some (.int .i64 fr) ∧ w'.cell? ⟨g7, j * 9 + 6, none⟩ = some (.int .i64 un) ∧ w'.cell? ⟨g7, j * 9 + 7, none⟩ = some (.int .i64 cp) ∧ w'.cell? ⟨g7, j * 9 + 8, none⟩ = some (.int .i64 hd) ∧ w'.cell? ⟨go, 12, none⟩ = some (.int .i64 tick) ∧ w'.cell? ⟨go, 14, none⟩ = some (.int .i64 cls) ∧ w'.cell? ⟨go, 15, none⟩ = some (.int .i64 0) ∧ w'.cell? ⟨go, 16, none⟩ = some (.string ⟨#[114]⟩) ∧ w'.cell? ⟨go, 17, none⟩ = some (.int .i64 1) ∧ w'.cell? ⟨go, 18, none⟩ = some (.slice A3 n3 c3) ∧ w'.cell? ⟨go, 19, none⟩ = some (.int .i64 tick) ∧ w'.cell? ⟨go, 20, none⟩ = some (.int .i64 0) ∧ w'.cell? ⟨go, 21, none⟩ = some (.string ⟨#[]⟩)) (first | go_keep | exact ⟨bat hb1 hgl y0, bat hb1 hgl y1, bat hb1 hgl y2, bat hb1 hgl y3, bat hb1 hgl y4, bat hb1 hgl y5, bat hb1 hgl y6, bat hb1 hgl y7, bat hb1 hgl y8, bat hb1 hol e12, bat hb1 hol e14, bat hb1 hol e15, bat hb1 hol e16, bat hb1 hol e17, bat hb1 hol e18, bat hb1 hol e19, bat hb1 hol e20, bat hb1 hol e21⟩)
                (first | (go_at_call 17; refine (covers_any _ _ _ _ _ _ _ _ _ _ _ _ _ _ _ _ _ _ _ _ w.heap.size ms ls _ _ _ (by exact HMX.out) (by exact HLr.out)).mono ?_; rintro e w1 ⟨rfl, hb1⟩))
              have HB2 : Hid (Below w7.heap.size w7 w1) := HBX.out.drew.trans (hb1.mono hszx)
              clear hb1 y0 y1 y2 y3 y4 y5 y6 y7 y8 e0 e1 e2 e3 e4 e5 e6 e7 e8 e9 e10 e11 e12 e13 e14 e15 e16 e17 e18 e19 e20 e21
              go_wp2
              go_roundw
              case rel => exact ⟨j, by omega, by go_num, v, rfl, HW2.out, by omega, by omega, HB2.out⟩
              case measure => simp [intOf]
    · have HF := Lib.hid hst.2.2
      clear hinv hst
      go_wp2_with (go_at_call 15; refine (lives_true _).mono ?_; rintro e w8 ⟨rfl, hb8⟩; have HX8 : Hid (Fr w.heap.size TT w w8) := HF.out.then_ hb8; clear hb8)
      go_ret
      exact ⟨rfl, HX8.out.to_below⟩
end Go.Proofs.Ytoafpajibeejlaa
