/- list, Raw and Text of package wire. -/
import Derived.Test.YtinbfdfgebiaeaaDoorHh
import Derived.Laws.BytesArg
set_option linter.unusedVariables false
set_option linter.unusedSimpArgs false
namespace Go.Proofs.YtinbfdfgebiaeaaDoor
open Go.RowKit

theorem own_fw2 {w w' : World} {g B t size n : Nat} {v : Value} {xs : List Value} (h : w.ownsRow B t size v n xs) (f : FW g w.heap.size w w') (hg : g < B) : w'.ownsRow B t size v n xs :=
  h.kept (row := some g) ⟨f.os, f.tape, f.output, f.size, fun k hk hn => f.block k hk (fun e => hn (by rw [e]))⟩ (by
    rcases h.2 with ⟨rfl, _⟩ | ⟨g', cap, cur, rfl, hb, _⟩
    · exact .inl rfl
    · exact .inr (by simp [Value.ownBlock]; omega))
theorem RD.lt_ {h b off c : Nat} {l : List Nat} {W W' : World} {p B : Nat} (r : RD h b off c l W p) (f : Below B W W') (hh : h < B) (hb : b < B) : RD h b off c l W' p :=
  ⟨(f.block h hh).trans r.blk, r.sq.keep f.size (f.block b hb), r.ne⟩
def RetL (h b off c : Nat) (l s : List Nat) (p : Nat) (w : World) (e : Ending) (w' : World) : Prop := ∃ b2 c2, e = .returned (.slice (some ⟨b2, 0, none⟩) s.length c2) ∧ SqB w' b2 0 s ∧ RD h b off c l w' p ∧ FW h w.heap.size w w'
set_option maxHeartbeats 2000000 in
set_option maxRecDepth 100000 in
theorem list_any (h b off c p : Nat) (s r l : List Nat) (w : World) (hr : RD h b off c l w p) (hd : l.drop p = uv s.length ++ (s ++ r)) (h0 : 0 < s.length) (hl : l.length ≤ 2000) :
    Calls Tryd.prog 42 #[.pointer (some ⟨h, 0, none⟩), .func (.func 38) #[.pointer (some ⟨h, 0, none⟩)] #[]] w (RetL h b off c l s (p + (uv s.length).length + s.length) w) := by
  have HR := Box.mk hr
  have HD := Box.mk hd
  have hsl : p + (uv s.length).length + s.length ≤ l.length := by
    have := congrArg List.length hd
    simp at this
    omega
  obtain ⟨p2, HP2⟩ : ∃ q, Box (p + (uv s.length).length = q) := ⟨_, ⟨rfl⟩⟩
  rw [HP2.out] at hsl ⊢
  have HD2 : Box (l.drop p2 = s ++ r) := ⟨by rw [← HP2.out, ← List.drop_drop, hd]; simp⟩
  clear hr hd
  go_enter Tryd.func42, Tryd.ntmps42
  go_wp2_with fail
  refine (ruint_any h b off c p s.length l (s ++ r) _ HR.out HD.out (by omega) hl).mono ?_
  rintro e w1 ⟨rfl, hr1, hf1⟩
  rw [HP2.out] at hr1
  have HR1 := Box.mk hr1
  have HF1 := Box.mk hf1
  obtain ⟨r0, r1, r2⟩ := hr1.blk.c3
  have hh1 := hr1.blk.lt
  have hb1 := hr1.sq.lt
  clear hr1 hf1 HR HD
  have e1 : IntKind.u64.wrap ((l.length : Int) - (p2 : Int)) = (l.length : Int) - (p2 : Int) := by rw [IntKind.wrap_u64]; omega
  have e2 : ¬ (l.length : Int) - (p2 : Int) < (s.length : Int) := by omega
  obtain ⟨j0, hj, hy0, hy1, hy2⟩ := info_parts byInfo
  have HJ := Box.mk (And.intro hj (And.intro hy0 (And.intro hy1 hy2)))
  clear hj hy0 hy1 hy2
  obtain ⟨w2, hmk, hown, hgr⟩ := run_make_own (P := Tryd.prog) w1.drew w1.heap.size 26 5 j0 (.int .u8 0) 1 Tryd.underlying26 HJ.out.1 HJ.out.2.1 HJ.out.2.2.1 .i64 .i64 s.length (by rw [HJ.out.2.2.2]; omega) (by unfold maxLen; omega) (Nat.le_refl _)
  have HO2 : Box (OwnB w2 w1.heap.size (.slice (some ⟨w1.heap.size, 0, none⟩) 0 s.length) []) := ⟨hown⟩
  have HB2 : Box (Below w1.heap.size w1 w2) := ⟨(below_drewN w1 1).trans ⟨hgr.os, hgr.tape, hgr.output, hgr.size, fun k hk => hgr.block k (by have := hgr.size; exact hk) (by simp)⟩⟩
  have HR2 := Box.mk (HR1.out.below HB2.out)
  have HF2 := Box.mk (HF1.out.trans ((FW.of_below (g := h) HB2.out).mono HF1.out.size))
  have hz2 := HB2.out.size
  have hzw := HF1.out.size
  clear hown hgr
  go_upto_region 4 with (fail)
  go_region
  all_goals
    clear r0 r1 r2
    go_upto_region 8 with (fail)
    go_wp2_with fail
    go_loopw [6, 35] (fun v y wr => ∃ i : Nat, i ≤ s.length ∧ y = .int .i64 (i : Nat) ∧ OwnB wr w1.heap.size v (s.take i) ∧ RD h b off c l wr (p2 + i) ∧ FW h w.heap.size w wr ∧ w1.heap.size ≤ wr.heap.size) (fun _ y _ => s.length - (intOf y).toNat)
    case atStart => exact ⟨0, by omega, rfl, HO2.out, HR2.out, HF2.out, hz2⟩
    case round =>
      clear HO2 HR2 HF2 HR1 HF1
      obtain ⟨i, hi, rfl, hown, hrd, hfw, hzr⟩ := hrel
      have HO := Box.mk hown
      have HR := Box.mk hrd
      have HF := Box.mk hfw
      clear hown hrd hfw
      by_cases hlt : i < s.length
      · have hlt2 : (i : Int) < (s.length : Int) := by omega
        obtain ⟨x, hx⟩ : ∃ x, s[i]? = some x := ⟨s[i], List.getElem?_eq_getElem _⟩
        have HX : Box (l[p2 + i]? = some x) := ⟨by rw [← List.getElem?_drop, HD2.out, List.getElem?_append_left hlt, hx]⟩
        have HT : Box (s.take (i + 1) = s.take i ++ [x]) := ⟨by rw [List.take_add_one, hx]; rfl⟩
        have htl : (s.take i).length = i := by rw [List.length_take]; omega
        clear hx
        go_wp2_with fail
        refine (octet_any h b off c (p2 + i) x l _ HR.out HX.out hl).mono ?_
        rintro e w5 ⟨rfl, hr5, hf5⟩
        have HR5 := Box.mk hr5
        have HF5 := Box.mk (HF.out.then_ hf5)
        have HO5 : Box (OwnB w5 w1.heap.size _ (s.take i)) := ⟨own_fw2 HO.out hf5 hh1⟩
        have hz5 := hf5.size
        clear hr5 hf5 HR HF HO
        obtain ⟨A', c', hv'⟩ := own_form HO5.out
        rw [htl] at hv'
        subst hv'
        have HO7 : Box (w5.ownsRow w1.heap.size 5 1 (.slice A' i c') i (byL (s.take i))) := ⟨by have := HO5.out; unfold OwnB at this; rw [htl] at this; exact this⟩
        clear HO5
        go_wp2_with (at_builtin; refine wpList_append_lies _ rfl _ _ 26 rfl w1.heap.size 5 j0 _ 1 1 Tryd.underlying26 HJ.out.1 HJ.out.2.1 HJ.out.2.2.1 HJ.out.2.2.2 rfl (by decide) (.slice A' i c') i (byL (s.take i)) rfl (by exact World.ownsRow.alloc HO7.out _) ⟨w5.heap.size, 0, none⟩ 1 1 [.int .u8 (x : Int)] rfl rfl (cells1b _ _ _) (by simp [Value.oneCell']) (by decide) (by unfold maxLen; omega) (by omega) (by simp; omega) _ rfl ?_; intro g8 cap8 w6 hown6 hg6 hat6 hlt6; have HB6 : Box (Below w1.heap.size w5 w6) := Box.mk (((Below.refl _ w5).alloc (by omega) _).trans (grow_lt (World.ownsRow.alloc HO7.out _) hg6 (by simp; omega))); have HR6 := Box.mk (HR5.out.lt_ HB6.out hh1 hb1); have q2 := (RD.blk HR6.out).c3.2.2; have HO6 : Box (OwnB w6 w1.heap.size (.slice (some ⟨g8, 0, none⟩) (i + 1) cap8) (s.take i ++ [x])) := Box.mk (by unfold OwnB; rw [List.length_append, htl]; unfold byL; rw [List.map_append]; exact hown6); clear hown6 hg6 hat6 hlt6)
        go_roundw
        case rel => exact ⟨i + 1, by omega, by go_num, by rw [HT.out]; exact HO6.out, by rw [← Nat.add_assoc]; exact HR6.out, HF5.out.trans ((FW.of_below HB6.out).mono hzw), Nat.le_trans hzr (Nat.le_trans hz5 HB6.out.size)⟩
        case measure => simp [intOf]; omega
      · have hie : i = s.length := by omega
        subst hie
        have hlt2 : ¬ (s.length : Int) < (s.length : Int) := by omega
        have hO := HO.out
        rw [List.take_length] at hO
        obtain ⟨g, c2, hv, -, hs⟩ := SqB.of_own hO h0
        subst hv
        go_wp2_with fail
        go_ret
        exact ⟨g, c2, rfl, hs, HR.out, HF.out⟩
set_option maxHeartbeats 1000000 in
theorem rraw_any (h b off c p : Nat) (s r l : List Nat) (w : World) (hr : RD h b off c l w p) (hd : l.drop p = uv s.length ++ (s ++ r)) (h0 : 0 < s.length) (hl : l.length ≤ 2000) :
    Calls Tryd.prog 26 #[.pointer (some ⟨h, 0, none⟩)] w (RetL h b off c l s (p + (uv s.length).length + s.length) w) := by
  have HR := Box.mk hr
  have HD := Box.mk hd
  clear hr hd
  go_enter Tryd.func26, Tryd.ntmps26
  go_wp2_with fail
  refine (list_any h b off c p s r l _ HR.out HD.out h0 hl).mono ?_
  rintro e w1 ⟨b2, c2, rfl, hs, hr1, hf⟩
  go_wp2_with fail
  go_ret
  exact ⟨b2, c2, rfl, hs, hr1, hf⟩
theorem str_back (t : ByteArray) : strOfNums ((strB t).map fun (x : Nat) => (x : Int)) = t := by
  unfold strOfNums strB
  apply ByteArray.ext
  simp only [List.map_map]
  rw [show ((fun n : Int => UInt8.ofNat n.toNat) ∘ (fun (x : Nat) => (x : Int)) ∘ fun b : UInt8 => b.toNat) = id from funext fun b => by simp]
  simp
set_option maxHeartbeats 1000000 in
theorem rtext_any (h b off c p : Nat) (t : ByteArray) (r l : List Nat) (w : World) (hr : RD h b off c l w p) (hd : l.drop p = uv t.size ++ (strB t ++ r)) (h0 : 0 < t.size) (hl : l.length ≤ 2000) :
    Calls Tryd.prog 12 #[.pointer (some ⟨h, 0, none⟩)] w (RetU h b off c l (p + (uv t.size).length + t.size) (.string t) w) := by
  have HR := Box.mk hr
  have HD : Box (l.drop p = uv (strB t).length ++ (strB t ++ r)) := ⟨by rw [strB_len]; exact hd⟩
  clear hr hd
  go_enter Tryd.func12, Tryd.ntmps12
  go_wp2_with fail
  refine (rraw_any h b off c p (strB t) r l _ HR.out HD.out (by rw [strB_len]; exact h0) hl).mono ?_
  rintro e w1 ⟨b2, c2, rfl, hs, hr1, hf⟩
  rw [strB_len] at hr1 ⊢
  have hcv : (convert 26 9 (.slice (some ⟨b2, 0, none⟩) t.size c2)).run Tryd.prog w1 = .ok (.string t) w1 := by
    have := run_convert_bytes_arg (P := Tryd.prog) w1 26 5 Tryd.underlying26 Tryd.underlying5 b2 0 t.size c2 ((strB t).map fun (x : Nat) => (x : Int)) (by rw [List.length_map, strB_len]) (fun i hi => by
      have hi2 : i < (strB t).length := by rw [strB_len]; exact hi
      rw [hs.at_ i (strB t)[i] (List.getElem?_eq_getElem hi2)]
      simp [List.getD, List.getElem?_eq_getElem hi2]) 9 Tryd.underlying9
    rw [str_back] at this
    exact this
  have HR1 := Box.mk hr1
  have HF1 := Box.mk hf
  clear hr1 hf hs
  go_wp2_with fail
  go_ret
  exact ⟨rfl, HR1.out, HF1.out⟩
end Go.Proofs.YtinbfdfgebiaeaaDoor
