/- SilenceCap: the walk. -/
import Derived.Test.YtoafpajibeejlaaScrD
import Derived.Test.YtoafpajibeejlaaCapM
import Derived.Deep.RegionWith
import Derived.Deep.QuietTactic
import Derived.BigQuiet
set_option linter.unusedVariables false
set_option linter.unusedSimpArgs false
namespace Go.Proofs.Ytoafpajibeejlaa
open Go.RowKit

/-- the book and the operations, at a world -/
def CapSt (w W : World) (sl : List Sil) (v : Value) (lo : List OpR) : Prop := (∃ l, BookAt W w.heap.size w.heap.size l ∧ l.map Prod.fst = sl) ∧ OpsAt W w.heap.size v lo ∧ Fr w.heap.size TT w W
theorem CapSt.next {w W W' : World} {sl : List Sil} {v : Value} {lo : List OpR} (h : CapSt w W sl v lo) (hb : Below W.heap.size W W') : CapSt w W' sl v lo := by
  obtain ⟨⟨l, h1, h2⟩, h3, h4⟩ := h
  exact ⟨⟨l, h1.below hb, h2⟩, h3.below hb, h4.then_ hb⟩
theorem CapSt.ret {w W W' : World} {sl sl' : List Sil} {v r : Value} {e : Ending} {lo : List OpR} (h : CapSt w W sl v lo) (hr : RetBook W w.heap.size w.heap.size r sl' e W') : e = .returned r ∧ CapSt w W' sl' v lo := by
  obtain ⟨_, h3, h4⟩ := h
  obtain ⟨he, l, hb, hm, hf⟩ := hr
  exact ⟨he, ⟨l, hb, hm⟩, h3.keep hf (by decide) (by decide) (by decide), h4.trans (hf.more (by simp [TT]))⟩
/-- what the loop knows -/
def CapRel (w : World) (v : Value) (lo : List OpR) (hv i : Value) (wr : World) : Prop :=
  ∃ (k : Nat) (sl : List Sil) (h : Int), k ≤ lo.length ∧ i = .int .i64 k ∧ hv = .int .i64 h ∧ 0 ≤ h ∧ h ≤ k ∧ sl.length ≤ k ∧ CapInv sl h ∧ CapSt w wr sl v lo
/-- behind the copy of the operation -/
theorem blk_bel {w : World} {cs : Array Value} {t : TypeId} : Blk (w.alloc (.cells cs t)) w.heap.size t cs ∧ Below w.heap.size w (w.alloc (.cells cs t)) := ⟨Blk.new _ _ _, bel1 _ _⟩
theorem solo_parts {ow se : ByteArray} (h : soloB ow se = false) : se.toList.isEmpty = false ∧ (se.toList == ow.toList) = false := by
  unfold soloB at h
  simpa using h

theorem map_get {l : List (Sil × Value)} {sl : List Sil} {k : Nat} {s : Sil} (h : l.map Prod.fst = sl) (hk : sl[k]? = some s) : ∃ mv, l[k]? = some (s, mv) := by
  subst h
  rw [List.getElem?_map] at hk
  cases hx : l[k]? with
  | none => simp [hx] at hk
  | some x => simp [hx] at hk; subst hk; exact ⟨x.2, rfl⟩
def CapEnd (w6 : World) (sl : List Sil) (n : Nat) (hv i : Value) (wx : World) : Prop := ∃ j : Nat, j ≤ n ∧ i = .int .i64 j ∧ hv = .int .i64 (sumH (sl.drop j)) ∧ Below w6.heap.size w6 wx
theorem drop_bd {sl : List Sil} {h : Int} (hI : CapInv sl h) (j : Nat) (hl : sl.length ≤ 10000) : 0 ≤ sumH (sl.drop j) ∧ sumH (sl.drop j) ≤ 1000000 := by
  have := sumH_nonneg (sl.drop j) (fun x hx => by
    obtain ⟨i, hi, rfl⟩ := List.mem_iff_getElem.1 (List.mem_of_mem_drop hx)
    have := hI.2 i _ (List.getElem?_eq_getElem hi)
    unfold CapOk at this; omega)
  rw [List.length_drop] at this
  omega
theorem bdrewN {B : Nat} {a w : World} (h : Below B a w) (n : Nat) : Below B a (w.drewN n) := ⟨h.os, h.tape, h.output, h.size, h.block⟩

set_option maxRecDepth 100000 in
set_option maxHeartbeats 4000000 in
theorem cap_walk (ops_any : OpsC) (A : Option Addr) (n c : Nat) (l : List Int) (w : World) (h : Ints w w.heap.size (.slice A n c) l) :
    Calls Try.prog 7 #[.slice A n c] w fun e w' => e = .returned (.bool true) ∧ Below w.heap.size w w' := by
  have HI := Lib.hid h
  clear h
  go_enter Try.func7, Try.ntmps7
  go_wp2_with (first
    | (go_at_call 19; refine (new_any _).mono ?_; rintro e w1 ⟨rfl, rfl⟩)
    | (go_at_call 16
       refine (ops_any _ _ _ w.heap.size l _ (by exact HI.out.below (bel1 _ _)) (by simp)).mono ?_
       rintro e w1 ⟨lo, A1, c1, rfl, ho1, hlo, hb1⟩
       have HS1 : Hid (CapSt w w1 [] (.slice A1 lo.length c1) lo) := ⟨⟨[], (new_book w _ (Nat.le_refl _)).below hb1, rfl⟩, ho1, (Fr.of_below (bel1 _ _)).then_ hb1⟩
       clear ho1 hb1))
  go_loopw [5, 6] (fun hv i wr => CapRel w (.slice A1 lo.length c1) lo hv i wr) (fun _ i _ => lo.length - (intOf i).toNat)
  case atStart => exact ⟨0, [], 0, by omega, rfl, rfl, by omega, by omega, by simp, ⟨rfl, fun i s hs => by simp at hs⟩, HS1.out⟩
  case round =>
    obtain ⟨k, sl, h, hk, rfl, rfl, hh0, hh1, hlen, hinv, hst⟩ := hrel
    have hsz := hst.2.2.size
    by_cases hlt : k < lo.length
    · obtain ⟨kind, s, A2, n2, c2, oid, ow, tick, til, cls, A3, n3, c3, ls, b, off, hx, rfl, hb, hat, hmx, hlx, hgf, ⟨k0, k3⟩, ⟨o1, o5⟩, ⟨t0, t1⟩, ⟨u0, u1⟩, ⟨cl0, cl1⟩, hl6, hgl⟩ := hst.2.1.open_ k hlt
      obtain ⟨dd, hdu, hdr⟩ := opUnder
      have HD := Lib.hid (And.intro hdu hdr)
      have HAT := Lib.hid hat
      have HST := Lib.hid (And.intro hinv (And.intro hst (And.intro hmx (And.intro hlx hgf))))
      clear hinv hst hmx hlx hgf hgl hat hx hdu hdr
      go_upto_region 8 with (first | (refine wpList_load_mid rfl 42 (.tmp 25) rfl b (off + k * 22) rfl _ _ HAT.out HD.out.1 HD.out.2 opSize ?_) | (refine wpList_store_new rfl 42 (.tmp 7) (.tmp 26) rfl _ (by simp) _ _ rfl rfl (by kernel_rfl) rfl (by simp [Value.oneCell']) ?_))
      have HW1 : Hid (Blk (wr.alloc (.cells #[.int .i64 kind, .int .i64 s.id, .slice A2 n2 c2, .string s.ow, .string s.se, .int .i64 s.cl, .int .i64 s.fr, .int .i64 s.un, .int .i64 s.cp, .int .i64 s.hd, .int .i64 oid, .string ow, .int .i64 tick, .int .i64 til, .int .i64 cls, .int .i64 0, .string ⟨#[114]⟩, .int .i64 1, .slice A3 n3 c3, .int .i64 tick, .int .i64 0, .string ⟨#[]⟩] 42)) wr.heap.size 42 #[.int .i64 kind, .int .i64 s.id, .slice A2 n2 c2, .string s.ow, .string s.se, .int .i64 s.cl, .int .i64 s.fr, .int .i64 s.un, .int .i64 s.cp, .int .i64 s.hd, .int .i64 oid, .string ow, .int .i64 tick, .int .i64 til, .int .i64 cls, .int .i64 0, .string ⟨#[114]⟩, .int .i64 1, .slice A3 n3 c3, .int .i64 tick, .int .i64 0, .string ⟨#[]⟩] ∧ CapSt w (wr.alloc (.cells #[.int .i64 kind, .int .i64 s.id, .slice A2 n2 c2, .string s.ow, .string s.se, .int .i64 s.cl, .int .i64 s.fr, .int .i64 s.un, .int .i64 s.cp, .int .i64 s.hd, .int .i64 oid, .string ow, .int .i64 tick, .int .i64 til, .int .i64 cls, .int .i64 0, .string ⟨#[114]⟩, .int .i64 1, .slice A3 n3 c3, .int .i64 tick, .int .i64 0, .string ⟨#[]⟩] 42)) sl (.slice (some ⟨b, off, none⟩) lo.length c1) lo ∧ Mats (wr.alloc (.cells #[.int .i64 kind, .int .i64 s.id, .slice A2 n2 c2, .string s.ow, .string s.se, .int .i64 s.cl, .int .i64 s.fr, .int .i64 s.un, .int .i64 s.cp, .int .i64 s.hd, .int .i64 oid, .string ow, .int .i64 tick, .int .i64 til, .int .i64 cls, .int .i64 0, .string ⟨#[114]⟩, .int .i64 1, .slice A3 n3 c3, .int .i64 tick, .int .i64 0, .string ⟨#[]⟩] 42)) w.heap.size (.slice A2 n2 c2) s.ms ∧ Labs (wr.alloc (.cells #[.int .i64 kind, .int .i64 s.id, .slice A2 n2 c2, .string s.ow, .string s.se, .int .i64 s.cl, .int .i64 s.fr, .int .i64 s.un, .int .i64 s.cp, .int .i64 s.hd, .int .i64 oid, .string ow, .int .i64 tick, .int .i64 til, .int .i64 cls, .int .i64 0, .string ⟨#[114]⟩, .int .i64 1, .slice A3 n3 c3, .int .i64 tick, .int .i64 0, .string ⟨#[]⟩] 42)) w.heap.size (.slice A3 n3 c3) ls) := ⟨Blk.new _ _ _, HST.out.2.1.next (bel1 _ _), HST.out.2.2.1.below (bel1 _ _), HST.out.2.2.2.1.below (bel1 _ _)⟩
      generalize wr.alloc (.cells #[.int .i64 kind, .int .i64 s.id, .slice A2 n2 c2, .string s.ow, .string s.se, .int .i64 s.cl, .int .i64 s.fr, .int .i64 s.un, .int .i64 s.cp, .int .i64 s.hd, .int .i64 oid, .string ow, .int .i64 tick, .int .i64 til, .int .i64 cls, .int .i64 0, .string ⟨#[114]⟩, .int .i64 1, .slice A3 n3 c3, .int .i64 tick, .int .i64 0, .string ⟨#[]⟩] 42) = W1 at HW1 ⊢
      obtain ⟨d0, d1, d2, d3, d4, d5, d6, d7, d8, d9, d10, d11, d12, d13, d14, d15, d16, d17, d18, d19, d20, d21⟩ := HW1.out.1.twentytwo
      have HG := Lib.hid (And.intro HST.out.1 HST.out.2.2.2.2)
      have hz1 : w.heap.size ≤ W1.heap.size := HW1.out.2.1.2.2.size
      have hp1 : wr.heap.size < W1.heap.size := HW1.out.1.ty.lt
      clear HST HAT HD
      obtain ⟨⟨l1, hbk1, hmap1⟩, _⟩ := HW1.out.2.1
      have HB1 := Lib.hid (And.intro hbk1 hmap1)
      have hl1 : l1.length ≤ 10000 := by rw [mapLen hmap1]; omega
      clear hbk1 hmap1
      rcases (show kind = 0 ∨ kind = 1 ∨ kind = 2 ∨ kind = 3 by omega) with rfl | rfl | rfl | rfl
      · obtain ⟨⟨⟨r1, r2⟩, sl2⟩, hM⟩ : ∃ x, openM sl s tick = x := ⟨_, rfl⟩
        have hf2 := openM_fit (sl := sl) (s := s) (tick := tick) HG.out.1.fit (by have := HG.out.2; unfold GFit at this; omega)
        have HI2 : Hid (CapInv sl2 h) := by have := capinv_open HG.out.1 s tick; rw [hM] at this; exact this
        have hln2 : sl2.length ≤ k + 1 := by have := hf2.2; rw [hM] at this; simp only at this; omega
        have HM := Lib.hid hM
        clear hM hf2
        go_wp2_with (go_at_call 20
                     refine (bopen_eq w.heap.size w.heap.size l1 s _ _ _ tick _ sl r1 r2 sl2 HB1.out.1 hz1 HW1.out.2.2.1 HG.out.2.1 hl1 HB1.out.2 HM.out).mono ?_
                     rintro e w2 hr
                     obtain ⟨rfl, hs2⟩ := HW1.out.2.1.ret hr
                     have HS2 := Lib.hid hs2
                     clear hr hs2)
        go_roundw
        case rel => exact ⟨k + 1, sl2, h, by omega, by go_num, rfl, hh0, by omega, hln2, HI2.out, HS2.out⟩
        case measure => simp [intOf]; omega
      · obtain ⟨⟨r1, sl2⟩, hM⟩ : ∃ x, extendM sl oid ow tick til = x := ⟨_, rfl⟩
        have hf2 := extendM_fit (sl := sl) (id := oid) (p := ow) (tick := tick) (til := til) HG.out.1.fit
        have HI2 : Hid (CapInv sl2 h) := by have := capinv_extend HG.out.1 oid ow tick til; rw [hM] at this; exact this
        have hln2 : sl2.length ≤ k + 1 := by have := hf2.2; rw [hM] at this; simp only at this; omega
        have HM := Lib.hid hM
        clear hM hf2
        go_wp2_with (go_at_call 23
                     refine (extend_eq w.heap.size w.heap.size l1 oid tick til ow _ sl r1 sl2 HB1.out.1 hl1 (by omega) (by omega) (by omega) (by omega) (by omega) HB1.out.2 HM.out).mono ?_
                     rintro e w2 hr
                     obtain ⟨rfl, hs2⟩ := HW1.out.2.1.ret hr
                     have HS2 := Lib.hid hs2
                     clear hr hs2)
        go_roundw
        case rel => exact ⟨k + 1, sl2, h, by omega, by go_num, rfl, hh0, by omega, hln2, HI2.out, HS2.out⟩
        case measure => simp [intOf]; omega
      · obtain ⟨⟨r1, sl2⟩, hM⟩ : ∃ x, endM sl oid ow tick = x := ⟨_, rfl⟩
        have hf2 := endM_fit (sl := sl) (id := oid) (p := ow) (tick := tick) HG.out.1.fit
        have HI2 : Hid (CapInv sl2 h) := by have := capinv_end HG.out.1 oid ow tick; rw [hM] at this; exact this
        have hln2 : sl2.length ≤ k + 1 := by have := hf2.2; rw [hM] at this; simp only at this; omega
        have HM := Lib.hid hM
        clear hM hf2
        go_wp2_with (go_at_call 28
                     refine (end_eq w.heap.size w.heap.size l1 oid tick ow _ sl r1 sl2 HB1.out.1 hl1 (by omega) HB1.out.2 HM.out).mono ?_
                     rintro e w2 hr
                     obtain ⟨rfl, hs2⟩ := HW1.out.2.1.ret hr
                     have HS2 := Lib.hid hs2
                     clear hr hs2)
        go_roundw
        case rel => exact ⟨k + 1, sl2, h, by omega, by go_num, rfl, hh0, by omega, hln2, HI2.out, HS2.out⟩
        case measure => simp [intOf]; omega
      · rcases capinv_hide HG.out.1 ls cls tick with hno | ⟨kk, s', hs', hyes, hinv2, hcl, hcl3, hsolo⟩
        · have HM := Lib.hid hno
          clear hno
          go_wp2_with (first
            | (go_at_call 24
               refine (hide_eq w.heap.size w.heap.size l1 _ _ _ _ _ _ _ _ _ ls cls tick _ sl 0 false sl HB1.out.1 hz1 hl1 HW1.out.2.2.2 HG.out.1.fit HB1.out.2 HM.out).mono ?_
               rintro e w2 hr
               obtain ⟨rfl, hs2⟩ := HW1.out.2.1.ret hr
               have hz2 : w.heap.size ≤ w2.heap.size := hs2.2.2.size
               obtain ⟨l2, hb2, hm2⟩ := hs2.1
               have hl2 : l2.length ≤ 10000 := by rw [mapLen hm2]; omega
               have HB2 := Lib.hid (And.intro hb2 hm2)
               have HS2 := Lib.hid hs2
               clear hr hs2 hb2 hm2)
            | (go_at_call 21
               refine (all_any w.heap.size w.heap.size l2 _ HB2.out.1 (by omega) hz2).mono ?_
               rintro e w6 ⟨A6, n6, c6, l6, rfl, hm6, ho6, hk6, hb6⟩
               have HS6 := Lib.hid (HS2.out.next hb6)
               clear hm6 ho6 hk6 hb6))
          go_roundw
          case rel => exact ⟨k + 1, sl, h, by omega, by go_num, rfl, hh0, by omega, by omega, HG.out.1, HS6.out⟩
          case measure => simp [intOf]; omega
        · obtain ⟨sl2, hsl2⟩ : ∃ y, sl.set kk { s' with hd := s'.hd + 1 } = y := ⟨_, rfl⟩
          have hkl : kk < sl.length := (List.getElem?_eq_some_iff.1 hs').1
          have hln2 : sl2.length = sl.length := by rw [← hsl2]; simp
          have HK : Hid (sl2[kk]? = some { s' with hd := s'.hd + 1 }) := by rw [← hsl2]; exact List.getElem?_set_self hkl
          rw [hsl2] at hyes hinv2
          have HM := Lib.hid hyes
          have HI2 := Lib.hid hinv2
          have HSO := Lib.hid hsolo
          have HLN := Lib.hid hln2
          have hln3 : sl2.length ≤ k := by omega
          have hkl2 : kk < sl2.length := by omega
          clear hyes hinv2 hsolo hs' hsl2 hln2
          go_upto_if 91 with (first
            | (go_at_call 24
               refine (hide_eq w.heap.size w.heap.size l1 _ _ _ _ _ _ _ _ _ ls cls tick _ sl _ true sl2 HB1.out.1 hz1 hl1 HW1.out.2.2.2 HG.out.1.fit HB1.out.2 HM.out).mono ?_
               rintro e w2 hr
               have HBK2 : Hid (Blk w2 wr.heap.size 42 #[.int .i64 3, .int .i64 s.id, .slice A2 n2 c2, .string s.ow, .string s.se, .int .i64 s.cl, .int .i64 s.fr, .int .i64 s.un, .int .i64 s.cp, .int .i64 s.hd, .int .i64 oid, .string ow, .int .i64 tick, .int .i64 til, .int .i64 cls, .int .i64 0, .string ⟨#[114]⟩, .int .i64 1, .slice A3 n3 c3, .int .i64 tick, .int .i64 0, .string ⟨#[]⟩]) := by
                 obtain ⟨_, _, _, _, hf⟩ := hr
                 exact HW1.out.1.keep hf (by decide)
               obtain ⟨rfl, hs2⟩ := HW1.out.2.1.ret hr
               have hz2 : w.heap.size ≤ w2.heap.size := hs2.2.2.size
               obtain ⟨l2, hb2, hm2⟩ := hs2.1
               have hl2 : l2.length ≤ 10000 := by rw [mapLen hm2]; omega
               have HB2 := Lib.hid (And.intro hb2 hm2)
               have HS2 := Lib.hid hs2
               clear hr hs2 hb2 hm2)
            | (go_at_call 21
               refine (all_any w.heap.size w.heap.size l2 _ HB2.out.1 (by omega) hz2).mono ?_
               rintro e w6 ⟨A6, n6, c6, l6, rfl, hm6, ho6, hk6, hb6⟩
               obtain ⟨A6', c6', hv6⟩ := own_form ho6
               have hn6 : n6 = l6.length := by injection hv6
               subst hn6
               have HS6 := Lib.hid (HS2.out.next hb6)
               have HBK6 := Lib.hid (HBK2.out.below hb6)
               have HL6 : Hid (l6.map Prod.fst = sl2) := by rw [hm6]; exact HB2.out.2
               have HSS : Hid (Sils w6 w.heap.size 24 (.slice A6 l6.length c6) l6) := ⟨Seq.of_own ho6, hk6⟩
               have hn7 : l6.length = sl2.length := mapLen HL6.out
               have hn8 : kk < l6.length := by omega
               have hn9 : l6.length ≤ 14 := by omega
               have HN7 := Lib.hid hn7
               clear hm6 ho6 hk6 hb6 hv6 hn7))
          obtain ⟨mv, hx6⟩ := map_get HL6.out HK.out
          obtain ⟨b6, off6, rfl, hb6, ⟨c0, c1, c2, c3, c4, c5, c6, c7, c8⟩, hmx6, hmo6⟩ := HSS.out.at_ kk _ hx6
          obtain ⟨A7, cp7, hmv⟩ := hmx6.form
          simp only at hmv
          subst hmv
          clear hx6 hmx6 hmo6 d0 d1 d2 d3 d4 d5 d6 d7 d8 d9 d10 d11 d12 d13 d14 d15 d16 d17 d18 d19 d20 d21 HW1 HB1 HB2 HS2 HBK2 HM HK
          obtain ⟨e0, e1, e2, e3, e4, e5, e6, e7, e8, e9, e10, e11, e12, e13, e14, e15, e16, e17, e18, e19, e20, e21⟩ := HBK6.out.twentytwo
          have hpp : wr.heap.size < w6.heap.size := HBK6.out.ty.lt
          obtain ⟨i', ms', ow', se', cl', fr', un', cp', hd'⟩ := s'
          simp only at c0 c1 c2 c3 c4 c5 c6 c7 c8 hcl hcl3
          have h4 : ¬ (3 < cls) := by omega
          by_cases h3 : cls = 3
          · subst h3
            obtain ⟨g1, g2⟩ := solo_parts (HSO.out (by simp only; omega))
            simp only at g1 g2
            go_wp2
            go_roundw
            case rel => exact ⟨k + 1, sl2, h + 1, by omega, by go_num, rfl, by omega, by omega, by omega, HI2.out, HS6.out.next (bel1 _ _)⟩
            case measure => simp [intOf]; omega
          · have h3' : (cls == 3) = false := by simpa using h3
            clear h3
            go_wp2
            go_roundw
            case rel => exact ⟨k + 1, sl2, h + 1, by omega, by go_num, rfl, by omega, by omega, by omega, HI2.out, HS6.out.next (bel1 _ _)⟩
            case measure => simp [intOf]; omega
    · have HG := Lib.hid hinv
      obtain ⟨l1, hb1, hm1⟩ := hst.1
      have hl1 : l1.length ≤ 10000 := by rw [mapLen hm1]; omega
      have HB1 := Lib.hid (And.intro hb1 hm1)
      have HS := Lib.hid hst
      clear hinv hst hb1 hm1
      go_wp2_with (go_at_call 21
                   refine (all_any w.heap.size w.heap.size l1 _ HB1.out.1 (by omega) hsz).mono ?_
                   rintro e w6 ⟨A6, n6, c6, l6, rfl, hm6, ho6, hk6, hb6⟩
                   obtain ⟨A6', c6', hv6⟩ := own_form ho6
                   have hn6 : n6 = l6.length := by injection hv6
                   subst hn6
                   have HF6 : Hid (Fr w.heap.size TT w w6) := HS.out.2.2.then_ hb6
                   have HL6 : Hid (l6.map Prod.fst = sl) := by rw [hm6]; exact HB1.out.2
                   have HSS : Hid (Sils w6 w.heap.size 24 (.slice A6 l6.length c6) l6) := ⟨Seq.of_own ho6, hk6⟩
                   have hn9 : l6.length ≤ 14 := by rw [mapLen HL6.out]; omega
                   clear hm6 ho6 hk6 hb6 hv6)
      go_loopw [5, 13] (fun hv i wx => CapEnd w6 sl l6.length hv i wx) (fun _ i _ => l6.length - (intOf i).toNat)
      case atStart => exact ⟨0, by omega, rfl, by rw [List.drop_zero, HG.out.1], Below.refl _ _⟩
      case round =>
        obtain ⟨j, hj, rfl, rfl, hbx⟩ := hrel
        have hszx := hbx.size
        have hbd := drop_bd HG.out j (by omega)
        by_cases hjl : j < l6.length
        · obtain ⟨s', hs'⟩ : ∃ x, sl[j]? = some x := ⟨sl[j]'(by rw [← mapLen HL6.out]; exact hjl), List.getElem?_eq_getElem _⟩
          have hok := HG.out.2 j s' hs'
          have hsum := sumH_take_succ sl j s' hs'
          have hbd2 := drop_bd HG.out (j + 1) (by omega)
          obtain ⟨mv, hx6⟩ := map_get HL6.out hs'
          obtain ⟨b6, off6, rfl, hb6, ⟨c0, c1, c2, c3, c4, c5, c6, c7, c8⟩, hmx6, hmo6⟩ := (HSS.out.below hbx).at_ j _ hx6
          have HSUM := Lib.hid hsum
          have HBX := Lib.hid hbx
          clear hx6 hmx6 hmo6 hs' hsum hbx
          obtain ⟨i', ms', ow', se', cl', fr', un', cp', hd'⟩ := s'
          obtain ⟨k1, k2, k3, k4, _⟩ := hok
          simp only at c0 c1 c2 c3 c4 c5 c6 c7 c8 k1 k2 k3 k4
          subst k1
          have z2 : decide (cp' < hd') = false := by simpa using k3
          have z3 : decide (hd' < 0) = false := by simpa using k2
          obtain ⟨S0, hS0⟩ : ∃ z, sumH (sl.drop j) = z := ⟨_, rfl⟩
          obtain ⟨S1, hS1⟩ : ∃ z, sumH (sl.drop (j + 1)) = z := ⟨_, rfl⟩
          rw [hS0] at hbd ⊢
          rw [hS1] at hbd2
          have hS01 : S0 - hd' = S1 := by have := HSUM.out; rw [hS0, hS1] at this; simp only at this; omega
          have HS01 := Lib.hid hS01
          have HS1 := Lib.hid hS1
          clear hS0 hS1 hS01
          go_wp2
          go_quiet (fail)
          go_wp2
          go_roundw
          case rel => exact ⟨j + 1, by omega, by go_num, by rw [HS1.out, HS01.out], bdrewN HBX.out _⟩
          case measure => simp [intOf]; omega
        · have hz : sumH (sl.drop j) = 0 := by rw [List.drop_of_length_le (by rw [← mapLen HL6.out]; omega)]; rfl
          rw [hz]
          have HX := Lib.hid (HF6.out.then_ hbx)
          clear hz hbx
          go_wp2_with (go_at_call 15; refine (lives_true _).mono ?_; rintro e w8 ⟨rfl, hb8⟩; have HX8 : Hid (Fr w.heap.size TT w w8) := HX.out.then_ hb8; clear hb8)
          go_ret
          exact ⟨rfl, HX8.out.to_below⟩
end Go.Proofs.Ytoafpajibeejlaa
