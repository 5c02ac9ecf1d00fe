/- SilenceCovers: the walk. -/
import Derived.Test.YtoafpajibeejlaaScrD
import Derived.Deep.RegionHeld3
import Derived.Deep.DeepCutAuto
import Derived.Deep.CutBlock
set_option linter.unusedVariables false
set_option linter.unusedSimpArgs false
namespace Go.Proofs.Ytoafpajibeejlaa
open Go.RowKit

/-- the copy of the first matchers -/
def CvM (w : World) (ms : List Mat) (csS csP : Array Value) (v i : Value) (wr : World) : Prop :=
  ∃ k : Nat, k ≤ ms.length ∧ k ≤ 4 ∧ i = .int .i64 k ∧ wr.ownsRow w.heap.size 27 3 v k ((ms.take k).flatMap matCells) ∧ Blk wr w.heap.size 24 csS ∧ Blk wr (w.heap.size + 1) 36 csP ∧ Below w.heap.size w wr
def CvMe (w : World) (ms : List Mat) (csS csP : Array Value) (v : Value) (wr : World) : Prop :=
  ∃ A n c, v = .slice A n c ∧ Mats wr w.heap.size (.slice A n c) (ms.take 4) ∧ Blk wr w.heap.size 24 csS ∧ Blk wr (w.heap.size + 1) 36 csP ∧ Below w.heap.size w wr
def CvL (w : World) (ls : List Lab) (mv : Value) (ms : List Mat) (csS csP : Array Value) (v i : Value) (wr : World) : Prop :=
  ∃ k : Nat, k ≤ ls.length ∧ k ≤ 4 ∧ i = .int .i64 k ∧ wr.ownsRow w.heap.size 38 2 v k ((ls.take k).flatMap labCells) ∧ Blk wr w.heap.size 24 csS ∧ Blk wr (w.heap.size + 1) 36 csP ∧ Mats wr w.heap.size mv ms ∧ Below w.heap.size w wr
def CvLe (w : World) (ls : List Lab) (mv : Value) (ms : List Mat) (csS csP : Array Value) (v : Value) (wr : World) : Prop :=
  ∃ A n c, v = .slice A n c ∧ Labs wr w.heap.size (.slice A n c) (ls.take 4) ∧ Blk wr w.heap.size 24 csS ∧ Blk wr (w.heap.size + 1) 36 csP ∧ Mats wr w.heap.size mv ms ∧ Below w.heap.size w wr
theorem take_stop {α : Type} {l : List α} {k : Nat} (h : ¬ (k < l.length ∧ k < 4)) (h1 : k ≤ l.length) (h2 : k ≤ 4) : l.take k = l.take 4 ∧ (l.take 4).length = k := by
  by_cases e : k = 4
  · subst e; exact ⟨rfl, by rw [List.length_take]; omega⟩
  · have : k = l.length := by omega
    subst this
    rw [List.take_length, List.take_of_length_le (by omega)]
    exact ⟨rfl, rfl⟩
theorem cvm_end {w wr : World} {ms : List Mat} {csS csP : Array Value} {v : Value} {k : Nat} (hstop : ¬ (k < ms.length ∧ k < 4)) (h1 : k ≤ ms.length) (h2 : k ≤ 4) (hown : wr.ownsRow w.heap.size 27 3 v k ((ms.take k).flatMap matCells)) (hS : Blk wr w.heap.size 24 csS) (hP : Blk wr (w.heap.size + 1) 36 csP) (hb : Below w.heap.size w wr) : CvMe w ms csS csP v wr := by
  obtain ⟨A, c, rfl⟩ := own_form hown
  obtain ⟨e1, e2⟩ := take_stop hstop h1 h2
  refine ⟨A, k, c, rfl, ?_, hS, hP, hb⟩
  have := Seq.of_own (base' := w.heap.size) hown
  unfold Mats
  rw [e2, ← e1]; exact this
theorem cvl_end {w wr : World} {ls : List Lab} {mv : Value} {ms : List Mat} {csS csP : Array Value} {v : Value} {k : Nat} (hstop : ¬ (k < ls.length ∧ k < 4)) (h1 : k ≤ ls.length) (h2 : k ≤ 4) (hown : wr.ownsRow w.heap.size 38 2 v k ((ls.take k).flatMap labCells)) (hS : Blk wr w.heap.size 24 csS) (hP : Blk wr (w.heap.size + 1) 36 csP) (hM : Mats wr w.heap.size mv ms) (hb : Below w.heap.size w wr) : CvLe w ls mv ms csS csP v wr := by
  obtain ⟨A, c, rfl⟩ := own_form hown
  obtain ⟨e1, e2⟩ := take_stop hstop h1 h2
  refine ⟨A, k, c, rfl, ?_, hS, hP, hM, hb⟩
  have := Seq.of_own (base' := w.heap.size) hown
  unfold Labs
  rw [e2, ← e1]; exact this
theorem take_next' {α : Type} {l : List α} {k : Nat} {x : α} (h : l[k]? = some x) : l.take (k + 1) = l.take k ++ [x] := by
  obtain ⟨hlt, e⟩ := List.getElem?_eq_some_iff.1 h
  rw [List.take_succ_eq_append_getElem hlt, e]

set_option maxRecDepth 100000 in
set_option maxHeartbeats 4000000 in
theorem covers_walk (ops_any : OpsC) (id cl fr un cp hd : Int) (ow se : ByteArray) (A : Option Addr) (n c : Nat) (ms : List Mat) (kd ve st sn : Int) (ru to_ : ByteArray) (A' : Option Addr) (n' c' : Nat) (ls : List Lab) (cls tick : Int) (A4 : Option Addr) (n4 c4 : Nat) (l : List Int) (w : World)
    (hm : Mats w w.heap.size (.slice A n c) ms) (hl : Labs w w.heap.size (.slice A' n' c') ls) (h : Ints w w.heap.size (.slice A4 n4 c4) l) :
    Calls Try.prog 4 #[.agg #[.int .i64 id, .slice A n c, .string ow, .string se, .int .i64 cl, .int .i64 fr, .int .i64 un, .int .i64 cp, .int .i64 hd], .agg #[.int .i64 kd, .string ru, .int .i64 ve, (.slice A' n' c'), .int .i64 st, .int .i64 sn, .string to_], .int .i64 cls, .int .i64 tick, .slice A4 n4 c4] w fun e w' => e = .returned (.bool true) ∧ Below w.heap.size w w' := by
  have HI := Lib.hid h
  obtain ⟨hnm, hnb⟩ := hm.len
  obtain ⟨hnl, hlb⟩ := hl.len
  have HM := Lib.hid (And.intro hm hnm)
  have HL := Lib.hid (And.intro hl hnl)
  have HJ := Lib.hid (info_parts matInfo)
  have HJ2 := Lib.hid (info_parts labInfo)
  clear h hm hl hnm hnl
  go_enter Try.func4, Try.ntmps4
  go_upto_block 0 with fail
  go_cut [11] (fun v wx => CvMe w ms #[.int .i64 id, .slice A n c, .string ow, .string se, .int .i64 cl, .int .i64 fr, .int .i64 un, .int .i64 cp, .int .i64 hd] #[.int .i64 kd, .string ru, .int .i64 ve, (.slice A' n' c'), .int .i64 st, .int .i64 sn, .string to_] v wx)
  case first =>
    go_wp2
    go_loopw [11, 12] (fun v i wr => CvM w ms #[.int .i64 id, .slice A n c, .string ow, .string se, .int .i64 cl, .int .i64 fr, .int .i64 un, .int .i64 cp, .int .i64 hd] #[.int .i64 kd, .string ru, .int .i64 ve, (.slice A' n' c'), .int .i64 st, .int .i64 sn, .string to_] v i wr) (fun _ i _ => 4 - (intOf i).toNat)
    case atStart => exact ⟨0, by omega, by omega, rfl, World.ownsRow_nil _ _ _ _, (Blk.new _ _ _).below (bel1 _ _), Blk.newAt _ _ (by simp), bel2 _ _ _⟩
    case round =>
      obtain ⟨k, hk, hk4, rfl, hown, hbs, hbp, hbw⟩ := hrel
      have hsz := hbw.size
      obtain ⟨a0, a1, a2, a3, a4, a5, a6, a7, a8⟩ := hbs.nine
      by_cases hlt : k < ms.length ∧ k < 4
      · obtain ⟨hlt1, hlt2⟩ := hlt
        have hkn : (k : Int) < (n : Int) := by rw [HM.out.2]; omega
        obtain ⟨x, hx⟩ : ∃ x, ms[k]? = some x := ⟨ms[k], List.getElem?_eq_getElem _⟩
        obtain ⟨b, off, rfl, hb, c0, c1, c2⟩ := (HM.out.1.below hbw).at_ k _ hx
        obtain ⟨x0, x1, x2⟩ := x
        simp only at c0 c1 c2
        obtain ⟨j0, hj, hy0, hy1, hy2⟩ := HJ.out
        have HX := Lib.hid hx
        have HR := Lib.hid (And.intro hown (And.intro hbs (And.intro hbp hbw)))
        clear hx hown hbs hbp hbw
        go_wp2_with (at_builtin; refine wpList_append_own_at _ rfl _ _ 22 rfl w.heap.size 27 j0 _ 3 40 Try.underlying22 hj hy0 hy1 hy2 rfl (by decide) _ k ((ms.take k).flatMap matCells) rfl (by exact HR.out.1.alloc _) ⟨wr.heap.size, 0, none⟩ 1 1 (matCells (x0, x1, x2)) rfl rfl (cells3 _ _ _ _ _) (mat_one _) (by simp only [maxLen]; omega) (by omega) (by simp; omega) ?_; intro v' w9 hown9 hg9 _ hat9)
        have HF9 : Hid (Fr w.heap.size [27] wr w9) := grow_fr HR.out.1 (bel1 _ _) hg9
        have HO9 : Hid (w9.ownsRow w.heap.size 27 3 v' (k + 1) ((ms.take (k + 1)).flatMap matCells)) := by rw [Hid, take_next' HX.out, List.flatMap_append]; simpa using hown9
        clear hown9 hg9 hat9 hj hy0 hy1 hy2
        go_roundw
        case rel => exact ⟨k + 1, by omega, by omega, by go_num, HO9.out, HR.out.2.1.keep HF9.out (by decide), HR.out.2.2.1.keep HF9.out (by decide), HR.out.2.2.2.trans (fr_below HF9.out hsz)⟩
        case measure => simp [intOf]; omega
      · have HE := Lib.hid (cvm_end hlt hk hk4 hown hbs hbp hbw)
        have HLT := Lib.hid hlt
        clear hown hbs hbp hbw hlt
        by_cases hkn : (k : Int) < (n : Int)
        · have hk44 : ¬ (k : Int) < 4 := by have := HLT.out; have := HM.out.2; omega
          go_wp2
          go_meet
          exact HE.out
        · go_wp2
          go_meet
          exact HE.out
  case rest =>
    obtain ⟨Am, nm, cm, rfl, hm1, hs1, hp1, hw1⟩ := hcut
    obtain ⟨W1, hW1⟩ : ∃ x, x = wc := ⟨_, rfl⟩
    subst hW1
    obtain ⟨a0, a1, a2, a3, a4, a5, a6, a7, a8⟩ := hs1.nine
    have af := hs1.frozen
    have HS1 : Hid (Mats (W1.setCell ⟨w.heap.size, 1, none⟩ (.slice Am nm cm)) w.heap.size (.slice Am nm cm) (ms.take 4) ∧ Blk (W1.setCell ⟨w.heap.size, 1, none⟩ (.slice Am nm cm)) w.heap.size 24 #[.int .i64 id, .slice Am nm cm, .string ow, .string se, .int .i64 cl, .int .i64 fr, .int .i64 un, .int .i64 cp, .int .i64 hd] ∧ Blk (W1.setCell ⟨w.heap.size, 1, none⟩ (.slice Am nm cm)) (w.heap.size + 1) 36 #[.int .i64 kd, .string ru, .int .i64 ve, (.slice A' n' c'), .int .i64 st, .int .i64 sn, .string to_] ∧ Below w.heap.size w (W1.setCell ⟨w.heap.size, 1, none⟩ (.slice Am nm cm))) :=
      ⟨hm1.keep (Fr.setAt (Fr.refl w.heap.size [24] _) hs1.ty (by decide) (Nat.le_refl _) 1 _) (by decide), hs1.set 1 _, hp1.far (by simp) _, hw1.setCell (p := ⟨w.heap.size, 1, none⟩) (Nat.le_refl _) _⟩
    clear hm1 hs1 hp1 hw1
    go_upto_region 7 with fail
    generalize W1.setCell ⟨w.heap.size, 1, none⟩ (.slice Am nm cm) = W2 at HS1 ⊢
    clear a0 a1 a2 a3 a4 a5 a6 a7 a8 af
    go_upto_block 2 with fail
    go_cut [13] (fun v wx => CvLe w ls (.slice Am nm cm) (ms.take 4) #[.int .i64 id, .slice Am nm cm, .string ow, .string se, .int .i64 cl, .int .i64 fr, .int .i64 un, .int .i64 cp, .int .i64 hd] #[.int .i64 kd, .string ru, .int .i64 ve, (.slice A' n' c'), .int .i64 st, .int .i64 sn, .string to_] v wx)
    case first =>
      go_wp2
      go_loopw [13, 14] (fun v i wr => CvL w ls (.slice Am nm cm) (ms.take 4) #[.int .i64 id, .slice Am nm cm, .string ow, .string se, .int .i64 cl, .int .i64 fr, .int .i64 un, .int .i64 cp, .int .i64 hd] #[.int .i64 kd, .string ru, .int .i64 ve, (.slice A' n' c'), .int .i64 st, .int .i64 sn, .string to_] v i wr) (fun _ i _ => 4 - (intOf i).toNat)
      case atStart => exact ⟨0, by omega, by omega, rfl, World.ownsRow_nil _ _ _ _, HS1.out.2.1, HS1.out.2.2.1, HS1.out.1, HS1.out.2.2.2⟩
      case round =>
        obtain ⟨k, hk, hk4, rfl, hown, hbs, hbp, hbm, hbw⟩ := hrel
        have hsz := hbw.size
        obtain ⟨b0, b1, b2, b3, b4, b5, b6⟩ := hbp.seven
        by_cases hlt : k < ls.length ∧ k < 4
        · obtain ⟨hlt1, hlt2⟩ := hlt
          have hkn : (k : Int) < (n' : Int) := by rw [HL.out.2]; omega
          obtain ⟨x, hx⟩ : ∃ x, ls[k]? = some x := ⟨ls[k], List.getElem?_eq_getElem _⟩
          obtain ⟨b, off, rfl, hb, c0, c1⟩ := (HL.out.1.below hbw).at_ k _ hx
          obtain ⟨x0, x1⟩ := x
          simp only at c0 c1
          obtain ⟨j0, hj, hy0, hy1, hy2⟩ := HJ2.out
          have HX := Lib.hid hx
          have HR := Lib.hid (And.intro hown (And.intro hbs (And.intro hbp (And.intro hbm hbw))))
          clear hx hown hbs hbp hbm hbw
          go_wp2_with (at_builtin; refine wpList_append_own_at _ rfl _ _ 34 rfl w.heap.size 38 j0 _ 2 32 Try.underlying34 hj hy0 hy1 hy2 rfl (by decide) _ k ((ls.take k).flatMap labCells) rfl (by exact HR.out.1.alloc _) ⟨wr.heap.size, 0, none⟩ 1 1 (labCells (x0, x1)) rfl rfl (cells2At rfl _ _ _) (lab_one _) (by simp only [maxLen]; omega) (by omega) (by simp; omega) ?_; intro v' w9 hown9 hg9 _ hat9)
          have HF9 : Hid (Fr w.heap.size [38] wr w9) := grow_fr HR.out.1 (bel1 _ _) hg9
          have HO9 : Hid (w9.ownsRow w.heap.size 38 2 v' (k + 1) ((ls.take (k + 1)).flatMap labCells)) := by rw [Hid, take_next' HX.out, List.flatMap_append]; simpa using hown9
          clear hown9 hg9 hat9 hj hy0 hy1 hy2
          go_roundw
          case rel => exact ⟨k + 1, by omega, by omega, by go_num, HO9.out, HR.out.2.1.keep HF9.out (by decide), HR.out.2.2.1.keep HF9.out (by decide), HR.out.2.2.2.1.keep HF9.out (by decide), HR.out.2.2.2.2.trans (fr_below HF9.out hsz)⟩
          case measure => simp [intOf]; omega
        · have HE := Lib.hid (cvl_end hlt hk hk4 hown hbs hbp hbm hbw)
          have HLT := Lib.hid hlt
          clear hown hbs hbp hbm hbw hlt
          by_cases hkn : (k : Int) < (n' : Int)
          · have hk44 : ¬ (k : Int) < 4 := by have := HLT.out; have := HL.out.2; omega
            go_wp2
            go_meet
            exact HE.out
          · go_wp2
            go_meet
            exact HE.out
    case rest =>
      clear HS1
      obtain ⟨Al, nl, cl2, rfl, hl1, hs1, hp1, hm1, hw1⟩ := hcut
      obtain ⟨W3, hW3⟩ : ∃ x, x = wc := ⟨_, rfl⟩
      subst hW3
      obtain ⟨b0, b1, b2, b3, b4, b5, b6⟩ := hp1.seven
      have bf := hp1.frozen
      have HS3 : Hid (Labs (W3.setCell ⟨w.heap.size + 1, 3, none⟩ (.slice Al nl cl2)) w.heap.size (.slice Al nl cl2) (ls.take 4) ∧ Blk (W3.setCell ⟨w.heap.size + 1, 3, none⟩ (.slice Al nl cl2)) w.heap.size 24 #[.int .i64 id, .slice Am nm cm, .string ow, .string se, .int .i64 cl, .int .i64 fr, .int .i64 un, .int .i64 cp, .int .i64 hd] ∧ Blk (W3.setCell ⟨w.heap.size + 1, 3, none⟩ (.slice Al nl cl2)) (w.heap.size + 1) 36 #[.int .i64 kd, .string ru, .int .i64 ve, .slice Al nl cl2, .int .i64 st, .int .i64 sn, .string to_] ∧ Mats (W3.setCell ⟨w.heap.size + 1, 3, none⟩ (.slice Al nl cl2)) w.heap.size (.slice Am nm cm) (ms.take 4) ∧ Below w.heap.size w (W3.setCell ⟨w.heap.size + 1, 3, none⟩ (.slice Al nl cl2))) :=
        ⟨hl1.keep (Fr.setAt (Fr.refl w.heap.size [36] _) hp1.ty (by decide) (by omega) 3 _) (by decide), hs1.far (by simp) _, hp1.set 3 _, hm1.keep (Fr.setAt (Fr.refl w.heap.size [36] _) hp1.ty (by decide) (by omega) 3 _) (by decide), hw1.setCell (p := ⟨w.heap.size + 1, 3, none⟩) (by simp) _⟩
      clear hl1 hs1 hp1 hm1 hw1
      go_upto_region 13 with fail
      generalize W3.setCell ⟨w.heap.size + 1, 3, none⟩ (.slice Al nl cl2) = W4 at HS3 ⊢
      clear b0 b1 b2 b3 b4 b5 b6 bf
      have hz4 : w.heap.size ≤ W4.heap.size := HS3.out.2.2.2.2.size
      go_wp2_with (go_at_call 16
                   refine (ops_any _ _ _ w.heap.size l _ (by exact HI.out.below HS3.out.2.2.2.2) hz4).mono ?_
                   rintro e w3 ⟨lo, A5, c5, rfl, ho5, hlo, hb5⟩
                   have HS5 : Hid (OpsAt w3 w.heap.size (.slice A5 lo.length c5) lo ∧ Labs w3 w.heap.size (.slice Al nl cl2) (ls.take 4) ∧ Blk w3 w.heap.size 24 #[.int .i64 id, .slice Am nm cm, .string ow, .string se, .int .i64 cl, .int .i64 fr, .int .i64 un, .int .i64 cp, .int .i64 hd] ∧ Blk w3 (w.heap.size + 1) 36 #[.int .i64 kd, .string ru, .int .i64 ve, .slice Al nl cl2, .int .i64 st, .int .i64 sn, .string to_] ∧ Mats w3 w.heap.size (.slice Am nm cm) (ms.take 4) ∧ Below w.heap.size w w3) := ⟨ho5, HS3.out.1.below hb5, HS3.out.2.1.below hb5, HS3.out.2.2.1.below hb5, HS3.out.2.2.2.1.below hb5, HS3.out.2.2.2.2.trans (hb5.mono hz4)⟩
                   clear ho5 hb5)
      clear HS3 hz4
      go_loopw [16] (fun i wr => ∃ k : Nat, k ≤ lo.length ∧ i = .int .i64 k ∧ Below w3.heap.size w3 wr) (fun i _ => lo.length - (intOf i).toNat)
      case atStart => exact ⟨0, by omega, rfl, Below.refl _ _⟩
      case round =>
        obtain ⟨k, hk, rfl, hbw⟩ := hrel
        have hsz := hbw.size
        by_cases hlt : k < lo.length
        · obtain ⟨kind, s, A2, n2, c2, oid, ow', tk, til, cl', A3, n3, c3, ls', b, off, hx, rfl, hb, hat, hmx, hlx, hgf, ⟨k0, k3⟩, ⟨o1, o5⟩, ⟨t0, t1⟩, ⟨u0, u1⟩, ⟨cl0, cl1⟩, hl6, hgl⟩ := (HS5.out.1.below hbw).open_ k hlt
          obtain ⟨dd, hdu, hdr⟩ := opUnder
          have HD := Lib.hid (And.intro hdu hdr)
          have HAT := Lib.hid hat
          have HST := Lib.hid (And.intro hmx (And.intro hlx hbw))
          clear hmx hlx hgf hgl hat hx hdu hdr hbw
          go_upto_region 18 with (first | (refine wpList_load_mid rfl 42 (.tmp 70) rfl b (off + k * 22) rfl _ _ HAT.out HD.out.1 HD.out.2 opSize ?_) | (refine wpList_store_new rfl 42 (.tmp 17) (.tmp 71) rfl _ (by simp) _ _ rfl rfl (by kernel_rfl) rfl (by simp [Value.oneCell']) ?_))
          have HW1 : Hid (Blk (wr.alloc (.cells #[.int .i64 kind, .int .i64 s.id, .slice A2 n2 c2, .string s.ow, .string s.se, .int .i64 s.cl, .int .i64 s.fr, .int .i64 s.un, .int .i64 s.cp, .int .i64 s.hd, .int .i64 oid, .string ow', .int .i64 tk, .int .i64 til, .int .i64 cl', .int .i64 0, .string ⟨#[114]⟩, .int .i64 1, .slice A3 n3 c3, .int .i64 tk, .int .i64 0, .string ⟨#[]⟩] 42)) wr.heap.size 42 #[.int .i64 kind, .int .i64 s.id, .slice A2 n2 c2, .string s.ow, .string s.se, .int .i64 s.cl, .int .i64 s.fr, .int .i64 s.un, .int .i64 s.cp, .int .i64 s.hd, .int .i64 oid, .string ow', .int .i64 tk, .int .i64 til, .int .i64 cl', .int .i64 0, .string ⟨#[114]⟩, .int .i64 1, .slice A3 n3 c3, .int .i64 tk, .int .i64 0, .string ⟨#[]⟩] ∧ Below wr.heap.size wr (wr.alloc (.cells #[.int .i64 kind, .int .i64 s.id, .slice A2 n2 c2, .string s.ow, .string s.se, .int .i64 s.cl, .int .i64 s.fr, .int .i64 s.un, .int .i64 s.cp, .int .i64 s.hd, .int .i64 oid, .string ow', .int .i64 tk, .int .i64 til, .int .i64 cl', .int .i64 0, .string ⟨#[114]⟩, .int .i64 1, .slice A3 n3 c3, .int .i64 tk, .int .i64 0, .string ⟨#[]⟩] 42))) := ⟨Blk.new _ _ _, bel1 _ _⟩
          generalize wr.alloc (.cells #[.int .i64 kind, .int .i64 s.id, .slice A2 n2 c2, .string s.ow, .string s.se, .int .i64 s.cl, .int .i64 s.fr, .int .i64 s.un, .int .i64 s.cp, .int .i64 s.hd, .int .i64 oid, .string ow', .int .i64 tk, .int .i64 til, .int .i64 cl', .int .i64 0, .string ⟨#[114]⟩, .int .i64 1, .slice A3 n3 c3, .int .i64 tk, .int .i64 0, .string ⟨#[]⟩] 42) = W5 at HW1 ⊢
          obtain ⟨d0, d1, d2, d3, d4, d5, d6, d7, d8, d9, d10, d11, d12, d13, d14, d15, d16, d17, d18, d19, d20, d21⟩ := HW1.out.1.twentytwo
          have df := HW1.out.1.frozen
          have hgo5 : wr.heap.size < W5.heap.size := HW1.out.1.ty.lt
          clear HAT HD
          have HW2 : Hid (Blk (W5.setCell ⟨wr.heap.size, 9, none⟩ (.int .i64 (oid - 3))) wr.heap.size 42 #[.int .i64 kind, .int .i64 s.id, .slice A2 n2 c2, .string s.ow, .string s.se, .int .i64 s.cl, .int .i64 s.fr, .int .i64 s.un, .int .i64 s.cp, .int .i64 (oid - 3), .int .i64 oid, .string ow', .int .i64 tk, .int .i64 til, .int .i64 cl', .int .i64 0, .string ⟨#[114]⟩, .int .i64 1, .slice A3 n3 c3, .int .i64 tk, .int .i64 0, .string ⟨#[]⟩] ∧ Mats (W5.setCell ⟨wr.heap.size, 9, none⟩ (.int .i64 (oid - 3))) w.heap.size (.slice A2 n2 c2) s.ms ∧ Labs (W5.setCell ⟨wr.heap.size, 9, none⟩ (.int .i64 (oid - 3))) w.heap.size (.slice A3 n3 c3) ls' ∧ Below w3.heap.size w3 (W5.setCell ⟨wr.heap.size, 9, none⟩ (.int .i64 (oid - 3)))) := by
            have f : Fr w.heap.size [42] W5 (W5.setCell ⟨wr.heap.size, 9, none⟩ (.int .i64 (oid - 3))) := Fr.setAt (Fr.refl _ _ _) HW1.out.1.ty (by decide) (by have := HS5.out.2.2.2.2.2.size; omega) 9 _
            exact ⟨by have := HW1.out.1.set 9 (.int .i64 (oid - 3)); simpa using this, (HST.out.1.below HW1.out.2).keep f (by decide), (HST.out.2.1.below HW1.out.2).keep f (by decide), (HST.out.2.2.trans (HW1.out.2.mono hsz)).setCell (by simp only; omega) _⟩
          go_upto_region 19 with fail
          generalize W5.setCell ⟨wr.heap.size, 9, none⟩ (.int .i64 (oid - 3)) = W6 at HW2 ⊢
          clear d0 d1 d2 d3 d4 d5 d6 d7 d8 d9 d10 d11 d12 d13 d14 d15 d16 d17 d18 d19 d20 d21 df HW1 hgo5 HST
          obtain ⟨go, hgoe⟩ : ∃ x, wr.heap.size = x := ⟨_, rfl⟩
          rw [hgoe] at HW2 hsz ⊢
          obtain ⟨e0, e1, e2, e3, e4, e5, e6, e7, e8, e9, e10, e11, e12, e13, e14, e15, e16, e17, e18, e19, e20, e21⟩ := HW2.out.1.twentytwo
          have hgo : go < W6.heap.size := HW2.out.1.ty.lt
          have hz6 : w3.heap.size ≤ W6.heap.size := HW2.out.2.2.2.size
          clear hgoe
          by_cases hq : coversB s.cl s.fr s.un s.cp (oid - 3) s.ms ls' cl' til = true
          all_goals
            (try have hq : coversB s.cl s.fr s.un s.cp (oid - 3) s.ms ls' cl' til = false := by simpa using hq)
            go_region_held3 (fun w' => w'.cell? ⟨go, 1, none⟩ = some (.int .i64 s.id) ∧ w'.cell? ⟨go, 2, none⟩ = some (.slice A2 n2 c2) ∧ w'.cell? ⟨go, 3, none⟩ = some (.string s.ow) ∧ w'.cell? ⟨go, 4, none⟩ = some (.string s.se) ∧ w'.cell? ⟨go, 5, none⟩ = some (.int .i64 s.cl) ∧ w'.cell? ⟨go, 6, none⟩ = some (.int .i64 s.fr) ∧ w'.cell? ⟨go, 7, none⟩ = some (.int .i64 s.un) ∧ w'.cell? ⟨go, 8, none⟩ = some (.int .i64 s.cp) ∧ w'.cell? ⟨go, 9, none⟩ = some (.int .i64 (oid - 3)) ∧ w'.cell? ⟨go, 13, none⟩ = some (.int .i64 til) ∧ w'.cell? ⟨go, 14, none⟩ = some (.int .i64 cl') ∧ w'.cell? ⟨go, 15, none⟩ = some (.int .i64 0) ∧ w'.cell? ⟨go, 16, none⟩ = some (.string ⟨#[114]⟩) ∧ w'.cell? ⟨go, 17, none⟩ = some (.int .i64 1) ∧ w'.cell? ⟨go, 18, none⟩ = some (.slice A3 n3 c3) ∧ w'.cell? ⟨go, 19, none⟩ = some (.int .i64 tk) ∧ w'.cell? ⟨go, 20, none⟩ = some (.int .i64 0) ∧ w'.cell? ⟨go, 21, none⟩ = some (.string ⟨#[]⟩)) (first | go_keep | with_reducible exact HK1.out | with_reducible exact HK2.out)
              (first
                | (go_at_call 17; refine (covers_any _ _ _ _ _ _ _ _ _ _ _ _ _ _ _ _ _ _ _ _ w.heap.size s.ms ls' _ _ _ (by exact HW2.out.2.1) (by exact HW2.out.2.2.1)).mono ?_
                   rintro e w1 ⟨rfl, hb1⟩
                   have HK1 : Hid (w1.cell? ⟨go, 1, none⟩ = some (.int .i64 s.id) ∧ w1.cell? ⟨go, 2, none⟩ = some (.slice A2 n2 c2) ∧ w1.cell? ⟨go, 3, none⟩ = some (.string s.ow) ∧ w1.cell? ⟨go, 4, none⟩ = some (.string s.se) ∧ w1.cell? ⟨go, 5, none⟩ = some (.int .i64 s.cl) ∧ w1.cell? ⟨go, 6, none⟩ = some (.int .i64 s.fr) ∧ w1.cell? ⟨go, 7, none⟩ = some (.int .i64 s.un) ∧ w1.cell? ⟨go, 8, none⟩ = some (.int .i64 s.cp) ∧ w1.cell? ⟨go, 9, none⟩ = some (.int .i64 (oid - 3)) ∧ w1.cell? ⟨go, 13, none⟩ = some (.int .i64 til) ∧ w1.cell? ⟨go, 14, none⟩ = some (.int .i64 cl') ∧ w1.cell? ⟨go, 15, none⟩ = some (.int .i64 0) ∧ w1.cell? ⟨go, 16, none⟩ = some (.string ⟨#[114]⟩) ∧ w1.cell? ⟨go, 17, none⟩ = some (.int .i64 1) ∧ w1.cell? ⟨go, 18, none⟩ = some (.slice A3 n3 c3) ∧ w1.cell? ⟨go, 19, none⟩ = some (.int .i64 tk) ∧ w1.cell? ⟨go, 20, none⟩ = some (.int .i64 0) ∧ w1.cell? ⟨go, 21, none⟩ = some (.string ⟨#[]⟩)) := ⟨bat hb1 hgo e1, bat hb1 hgo e2, bat hb1 hgo e3, bat hb1 hgo e4, bat hb1 hgo e5, bat hb1 hgo e6, bat hb1 hgo e7, bat hb1 hgo e8, bat hb1 hgo e9, bat hb1 hgo e13, bat hb1 hgo e14, bat hb1 hgo e15, bat hb1 hgo e16, bat hb1 hgo e17, bat hb1 hgo e18, bat hb1 hgo e19, bat hb1 hgo e20, bat hb1 hgo e21⟩
                   have HN1 : Hid (Mats w1 w.heap.size (.slice A2 n2 c2) s.ms ∧ Labs w1 w.heap.size (.slice A3 n3 c3) ls' ∧ Below w3.heap.size w3 w1) := ⟨Mats.below (w := W6.drew) HW2.out.2.1 hb1, Labs.below (w := W6.drew) HW2.out.2.2.1 hb1, HW2.out.2.2.2.drew.trans (hb1.mono hz6)⟩
                   have hg1 : go < w1.heap.size := Nat.lt_of_lt_of_le hgo hb1.size
                   clear hb1)
                | (go_at_call 18; refine (rcovers_any _ _ _ _ _ _ _ _ _ _ _ _ _ _ _ _ _ _ _ _ w.heap.size s.ms ls' _ _ _ (by exact HN1.out.1) (by exact HN1.out.2.1)).mono ?_
                   rintro e w2 ⟨rfl, hb2⟩
                   have HK2 : Hid (w2.cell? ⟨go, 1, none⟩ = some (.int .i64 s.id) ∧ w2.cell? ⟨go, 2, none⟩ = some (.slice A2 n2 c2) ∧ w2.cell? ⟨go, 3, none⟩ = some (.string s.ow) ∧ w2.cell? ⟨go, 4, none⟩ = some (.string s.se) ∧ w2.cell? ⟨go, 5, none⟩ = some (.int .i64 s.cl) ∧ w2.cell? ⟨go, 6, none⟩ = some (.int .i64 s.fr) ∧ w2.cell? ⟨go, 7, none⟩ = some (.int .i64 s.un) ∧ w2.cell? ⟨go, 8, none⟩ = some (.int .i64 s.cp) ∧ w2.cell? ⟨go, 9, none⟩ = some (.int .i64 (oid - 3)) ∧ w2.cell? ⟨go, 13, none⟩ = some (.int .i64 til) ∧ w2.cell? ⟨go, 14, none⟩ = some (.int .i64 cl') ∧ w2.cell? ⟨go, 15, none⟩ = some (.int .i64 0) ∧ w2.cell? ⟨go, 16, none⟩ = some (.string ⟨#[114]⟩) ∧ w2.cell? ⟨go, 17, none⟩ = some (.int .i64 1) ∧ w2.cell? ⟨go, 18, none⟩ = some (.slice A3 n3 c3) ∧ w2.cell? ⟨go, 19, none⟩ = some (.int .i64 tk) ∧ w2.cell? ⟨go, 20, none⟩ = some (.int .i64 0) ∧ w2.cell? ⟨go, 21, none⟩ = some (.string ⟨#[]⟩)) := ⟨bat hb2 hg1 (HK1.out.1), bat hb2 hg1 (HK1.out.2.1), bat hb2 hg1 (HK1.out.2.2.1), bat hb2 hg1 (HK1.out.2.2.2.1), bat hb2 hg1 (HK1.out.2.2.2.2.1), bat hb2 hg1 (HK1.out.2.2.2.2.2.1), bat hb2 hg1 (HK1.out.2.2.2.2.2.2.1), bat hb2 hg1 (HK1.out.2.2.2.2.2.2.2.1), bat hb2 hg1 (HK1.out.2.2.2.2.2.2.2.2.1), bat hb2 hg1 (HK1.out.2.2.2.2.2.2.2.2.2.1), bat hb2 hg1 (HK1.out.2.2.2.2.2.2.2.2.2.2.1), bat hb2 hg1 (HK1.out.2.2.2.2.2.2.2.2.2.2.2.1), bat hb2 hg1 (HK1.out.2.2.2.2.2.2.2.2.2.2.2.2.1), bat hb2 hg1 (HK1.out.2.2.2.2.2.2.2.2.2.2.2.2.2.1), bat hb2 hg1 (HK1.out.2.2.2.2.2.2.2.2.2.2.2.2.2.2.1), bat hb2 hg1 (HK1.out.2.2.2.2.2.2.2.2.2.2.2.2.2.2.2.1), bat hb2 hg1 (HK1.out.2.2.2.2.2.2.2.2.2.2.2.2.2.2.2.2.1), bat hb2 hg1 (HK1.out.2.2.2.2.2.2.2.2.2.2.2.2.2.2.2.2.2)⟩
                   have HN2 : Hid (Below w3.heap.size w3 w2) := HN1.out.2.2.trans (hb2.mono HN1.out.2.2.size)
                   clear hb2))
            go_wp2
            go_roundw
            case rel => exact ⟨k + 1, by omega, by go_num, HN2.out⟩
            case measure => simp [intOf]; omega
        · have HB : Hid (Labs wr w.heap.size (.slice Al nl cl2) (ls.take 4) ∧ Blk wr w.heap.size 24 #[.int .i64 id, .slice Am nm cm, .string ow, .string se, .int .i64 cl, .int .i64 fr, .int .i64 un, .int .i64 cp, .int .i64 hd] ∧ Blk wr (w.heap.size + 1) 36 #[.int .i64 kd, .string ru, .int .i64 ve, .slice Al nl cl2, .int .i64 st, .int .i64 sn, .string to_] ∧ Mats wr w.heap.size (.slice Am nm cm) (ms.take 4) ∧ Below w.heap.size w wr) := ⟨HS5.out.2.1.below hbw, HS5.out.2.2.1.below hbw, HS5.out.2.2.2.1.below hbw, HS5.out.2.2.2.2.1.below hbw, HS5.out.2.2.2.2.2.trans (hbw.mono HS5.out.2.2.2.2.2.size)⟩
          clear HS5 hbw
          obtain ⟨a0, a1, a2, a3, a4, a5, a6, a7, a8⟩ := HB.out.2.1.nine
          obtain ⟨b0, b1, b2, b3, b4, b5, b6⟩ := HB.out.2.2.1.seven
          have hs0 : w.heap.size < wr.heap.size := HB.out.2.1.ty.lt
          have hs1 : w.heap.size + 1 < wr.heap.size := HB.out.2.2.1.ty.lt
          by_cases hq : coversB cl fr un cp hd (ms.take 4) (ls.take 4) cls tick = true
          all_goals
            (try have hq : coversB cl fr un cp hd (ms.take 4) (ls.take 4) cls tick = false := by simpa using hq)
            go_wp2_with fail
            go_region_held3 (fun w' => w'.cell? ⟨w.heap.size, 0, none⟩ = some (.int .i64 id) ∧ w'.cell? ⟨w.heap.size, 1, none⟩ = some (.slice Am nm cm) ∧ w'.cell? ⟨w.heap.size, 2, none⟩ = some (.string ow) ∧ w'.cell? ⟨w.heap.size, 3, none⟩ = some (.string se) ∧ w'.cell? ⟨w.heap.size, 4, none⟩ = some (.int .i64 cl) ∧ w'.cell? ⟨w.heap.size, 5, none⟩ = some (.int .i64 fr) ∧ w'.cell? ⟨w.heap.size, 6, none⟩ = some (.int .i64 un) ∧ w'.cell? ⟨w.heap.size, 7, none⟩ = some (.int .i64 cp) ∧ w'.cell? ⟨w.heap.size, 8, none⟩ = some (.int .i64 hd) ∧ w'.cell? ⟨w.heap.size + 1, 0, none⟩ = some (.int .i64 kd) ∧ w'.cell? ⟨w.heap.size + 1, 1, none⟩ = some (.string ru) ∧ w'.cell? ⟨w.heap.size + 1, 2, none⟩ = some (.int .i64 ve) ∧ w'.cell? ⟨w.heap.size + 1, 3, none⟩ = some (.slice Al nl cl2) ∧ w'.cell? ⟨w.heap.size + 1, 4, none⟩ = some (.int .i64 st) ∧ w'.cell? ⟨w.heap.size + 1, 5, none⟩ = some (.int .i64 sn) ∧ w'.cell? ⟨w.heap.size + 1, 6, none⟩ = some (.string to_)) (first | go_keep | with_reducible exact HK1.out | with_reducible exact HK2.out | with_reducible exact HK3.out)
              (first
                | (go_at_call 17; refine (covers_any _ _ _ _ _ _ _ _ _ _ _ _ _ _ _ _ _ _ _ _ w.heap.size (ms.take 4) (ls.take 4) _ _ _ (by exact HB.out.2.2.2.1) (by exact HB.out.1)).mono ?_
                   rintro e w1 ⟨rfl, hb1⟩
                   have HK1 : Hid (w1.cell? ⟨w.heap.size, 0, none⟩ = some (.int .i64 id) ∧ w1.cell? ⟨w.heap.size, 1, none⟩ = some (.slice Am nm cm) ∧ w1.cell? ⟨w.heap.size, 2, none⟩ = some (.string ow) ∧ w1.cell? ⟨w.heap.size, 3, none⟩ = some (.string se) ∧ w1.cell? ⟨w.heap.size, 4, none⟩ = some (.int .i64 cl) ∧ w1.cell? ⟨w.heap.size, 5, none⟩ = some (.int .i64 fr) ∧ w1.cell? ⟨w.heap.size, 6, none⟩ = some (.int .i64 un) ∧ w1.cell? ⟨w.heap.size, 7, none⟩ = some (.int .i64 cp) ∧ w1.cell? ⟨w.heap.size, 8, none⟩ = some (.int .i64 hd) ∧ w1.cell? ⟨w.heap.size + 1, 0, none⟩ = some (.int .i64 kd) ∧ w1.cell? ⟨w.heap.size + 1, 1, none⟩ = some (.string ru) ∧ w1.cell? ⟨w.heap.size + 1, 2, none⟩ = some (.int .i64 ve) ∧ w1.cell? ⟨w.heap.size + 1, 3, none⟩ = some (.slice Al nl cl2) ∧ w1.cell? ⟨w.heap.size + 1, 4, none⟩ = some (.int .i64 st) ∧ w1.cell? ⟨w.heap.size + 1, 5, none⟩ = some (.int .i64 sn) ∧ w1.cell? ⟨w.heap.size + 1, 6, none⟩ = some (.string to_)) := ⟨bat hb1 hs0 a0, bat hb1 hs0 a1, bat hb1 hs0 a2, bat hb1 hs0 a3, bat hb1 hs0 a4, bat hb1 hs0 a5, bat hb1 hs0 a6, bat hb1 hs0 a7, bat hb1 hs0 a8, bat hb1 hs1 b0, bat hb1 hs1 b1, bat hb1 hs1 b2, bat hb1 hs1 b3, bat hb1 hs1 b4, bat hb1 hs1 b5, bat hb1 hs1 b6⟩
                   have HN1 : Hid (Mats w1 w.heap.size (.slice Am nm cm) (ms.take 4) ∧ Labs w1 w.heap.size (.slice Al nl cl2) (ls.take 4) ∧ Below w.heap.size w w1) := ⟨Mats.below (w := wr.drew) HB.out.2.2.2.1 hb1, Labs.below (w := wr.drew) HB.out.1 hb1, HB.out.2.2.2.2.drew.trans (hb1.mono (by have := hs0; simp; omega))⟩
                   have hs0x : w.heap.size < w1.heap.size := Nat.lt_of_lt_of_le hs0 hb1.size
                   have hs1x : w.heap.size + 1 < w1.heap.size := Nat.lt_of_lt_of_le hs1 hb1.size
                   clear hb1)
                | (go_at_call 18; refine (rcovers_any _ _ _ _ _ _ _ _ _ _ _ _ _ _ _ _ _ _ _ _ w.heap.size (ms.take 4) (ls.take 4) _ _ _ (by exact HN1.out.1) (by exact HN1.out.2.1)).mono ?_
                   rintro e w2 ⟨rfl, hb2⟩
                   have HK2 : Hid (w2.cell? ⟨w.heap.size, 0, none⟩ = some (.int .i64 id) ∧ w2.cell? ⟨w.heap.size, 1, none⟩ = some (.slice Am nm cm) ∧ w2.cell? ⟨w.heap.size, 2, none⟩ = some (.string ow) ∧ w2.cell? ⟨w.heap.size, 3, none⟩ = some (.string se) ∧ w2.cell? ⟨w.heap.size, 4, none⟩ = some (.int .i64 cl) ∧ w2.cell? ⟨w.heap.size, 5, none⟩ = some (.int .i64 fr) ∧ w2.cell? ⟨w.heap.size, 6, none⟩ = some (.int .i64 un) ∧ w2.cell? ⟨w.heap.size, 7, none⟩ = some (.int .i64 cp) ∧ w2.cell? ⟨w.heap.size, 8, none⟩ = some (.int .i64 hd) ∧ w2.cell? ⟨w.heap.size + 1, 0, none⟩ = some (.int .i64 kd) ∧ w2.cell? ⟨w.heap.size + 1, 1, none⟩ = some (.string ru) ∧ w2.cell? ⟨w.heap.size + 1, 2, none⟩ = some (.int .i64 ve) ∧ w2.cell? ⟨w.heap.size + 1, 3, none⟩ = some (.slice Al nl cl2) ∧ w2.cell? ⟨w.heap.size + 1, 4, none⟩ = some (.int .i64 st) ∧ w2.cell? ⟨w.heap.size + 1, 5, none⟩ = some (.int .i64 sn) ∧ w2.cell? ⟨w.heap.size + 1, 6, none⟩ = some (.string to_)) := ⟨bat hb2 hs0x (HK1.out.1), bat hb2 hs0x (HK1.out.2.1), bat hb2 hs0x (HK1.out.2.2.1), bat hb2 hs0x (HK1.out.2.2.2.1), bat hb2 hs0x (HK1.out.2.2.2.2.1), bat hb2 hs0x (HK1.out.2.2.2.2.2.1), bat hb2 hs0x (HK1.out.2.2.2.2.2.2.1), bat hb2 hs0x (HK1.out.2.2.2.2.2.2.2.1), bat hb2 hs0x (HK1.out.2.2.2.2.2.2.2.2.1), bat hb2 hs1x (HK1.out.2.2.2.2.2.2.2.2.2.1), bat hb2 hs1x (HK1.out.2.2.2.2.2.2.2.2.2.2.1), bat hb2 hs1x (HK1.out.2.2.2.2.2.2.2.2.2.2.2.1), bat hb2 hs1x (HK1.out.2.2.2.2.2.2.2.2.2.2.2.2.1), bat hb2 hs1x (HK1.out.2.2.2.2.2.2.2.2.2.2.2.2.2.1), bat hb2 hs1x (HK1.out.2.2.2.2.2.2.2.2.2.2.2.2.2.2.1), bat hb2 hs1x (HK1.out.2.2.2.2.2.2.2.2.2.2.2.2.2.2.2)⟩
                   have HN2 : Hid (Below w.heap.size w w2) := HN1.out.2.2.trans (hb2.mono HN1.out.2.2.size)
                   have hs0y : w.heap.size < w2.heap.size := Nat.lt_of_lt_of_le hs0x hb2.size
                   have hs1y : w.heap.size + 1 < w2.heap.size := Nat.lt_of_lt_of_le hs1x hb2.size
                   clear hb2)
                | (go_at_call 15; refine (lives_true _).mono ?_
                   rintro e w8 ⟨rfl, hb8⟩
                   have HK3 : Hid (w8.cell? ⟨w.heap.size, 0, none⟩ = some (.int .i64 id) ∧ w8.cell? ⟨w.heap.size, 1, none⟩ = some (.slice Am nm cm) ∧ w8.cell? ⟨w.heap.size, 2, none⟩ = some (.string ow) ∧ w8.cell? ⟨w.heap.size, 3, none⟩ = some (.string se) ∧ w8.cell? ⟨w.heap.size, 4, none⟩ = some (.int .i64 cl) ∧ w8.cell? ⟨w.heap.size, 5, none⟩ = some (.int .i64 fr) ∧ w8.cell? ⟨w.heap.size, 6, none⟩ = some (.int .i64 un) ∧ w8.cell? ⟨w.heap.size, 7, none⟩ = some (.int .i64 cp) ∧ w8.cell? ⟨w.heap.size, 8, none⟩ = some (.int .i64 hd) ∧ w8.cell? ⟨w.heap.size + 1, 0, none⟩ = some (.int .i64 kd) ∧ w8.cell? ⟨w.heap.size + 1, 1, none⟩ = some (.string ru) ∧ w8.cell? ⟨w.heap.size + 1, 2, none⟩ = some (.int .i64 ve) ∧ w8.cell? ⟨w.heap.size + 1, 3, none⟩ = some (.slice Al nl cl2) ∧ w8.cell? ⟨w.heap.size + 1, 4, none⟩ = some (.int .i64 st) ∧ w8.cell? ⟨w.heap.size + 1, 5, none⟩ = some (.int .i64 sn) ∧ w8.cell? ⟨w.heap.size + 1, 6, none⟩ = some (.string to_)) := ⟨bat hb8 hs0y (HK2.out.1), bat hb8 hs0y (HK2.out.2.1), bat hb8 hs0y (HK2.out.2.2.1), bat hb8 hs0y (HK2.out.2.2.2.1), bat hb8 hs0y (HK2.out.2.2.2.2.1), bat hb8 hs0y (HK2.out.2.2.2.2.2.1), bat hb8 hs0y (HK2.out.2.2.2.2.2.2.1), bat hb8 hs0y (HK2.out.2.2.2.2.2.2.2.1), bat hb8 hs0y (HK2.out.2.2.2.2.2.2.2.2.1), bat hb8 hs1y (HK2.out.2.2.2.2.2.2.2.2.2.1), bat hb8 hs1y (HK2.out.2.2.2.2.2.2.2.2.2.2.1), bat hb8 hs1y (HK2.out.2.2.2.2.2.2.2.2.2.2.2.1), bat hb8 hs1y (HK2.out.2.2.2.2.2.2.2.2.2.2.2.2.1), bat hb8 hs1y (HK2.out.2.2.2.2.2.2.2.2.2.2.2.2.2.1), bat hb8 hs1y (HK2.out.2.2.2.2.2.2.2.2.2.2.2.2.2.2.1), bat hb8 hs1y (HK2.out.2.2.2.2.2.2.2.2.2.2.2.2.2.2.2)⟩
                   have HX8 : Hid (Below w.heap.size w w8) := HN2.out.trans (hb8.mono HN2.out.size)
                   clear hb8))
            go_wp2
            go_ret
            exact ⟨rfl, HX8.out⟩
end Go.Proofs.Ytoafpajibeejlaa
