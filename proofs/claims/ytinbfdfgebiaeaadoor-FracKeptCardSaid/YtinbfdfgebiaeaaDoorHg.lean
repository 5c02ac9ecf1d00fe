/- Uint of the reader of package wire: the walk. -/
import Derived.Test.YtinbfdfgebiaeaaDoorHf
set_option linter.unusedVariables false
set_option linter.unusedSimpArgs false
namespace Go.Proofs.YtinbfdfgebiaeaaDoor
open Go.RowKit

def RetU (h b off c : Nat) (l : List Nat) (p : Nat) (v : Value) (w : World) (e : Ending) (w' : World) : Prop := e = .returned v ∧ RD h b off c l w' p ∧ FW h w.heap.size w w'
set_option maxHeartbeats 2000000 in
set_option maxRecDepth 100000 in
theorem ruint_any (h b off c p n : Nat) (l r : List Nat) (w : World) (hr : RD h b off c l w p) (hd : l.drop p = uv n ++ r) (hn : n < 18446744073709551616) (hl : l.length ≤ 2000) :
    Calls Tryd.prog 23 #[.pointer (some ⟨h, 0, none⟩)] w (RetU h b off c l (p + (uv n).length) (.int .u64 (n : Int)) w) := by
  have HR := Box.mk hr
  have HD := Box.mk hd
  have HN := Box.mk hn
  obtain ⟨pe, HPE⟩ : ∃ pe, Box (p + (uv n).length = pe) := ⟨_, ⟨rfl⟩⟩
  rw [HPE.out]
  clear hr hd hn
  go_enter Tryd.func23, Tryd.ntmps23
  go_wp2_with fail
  go_loopw [3, 4] (fun z y wr => ∃ i acc m : Nat, z = .int .u64 (acc : Nat) ∧ y = .int .i64 (i : Nat) ∧ Box (UR n i acc m) ∧ Box (l.drop (p + i) = uv m ++ r) ∧ Box (p + i + (uv m).length = pe) ∧ RD h b off c l wr (p + i) ∧ FW h w.heap.size w wr) (fun _ y _ => (10 - intOf y).toNat)
  case atStart => exact ⟨0, 0, n, rfl, rfl, ⟨⟨by omega, by simp, by simp, .inl rfl⟩⟩, HD, HPE, HR.out, FW.refl _ _ _⟩
  case round =>
    clear HR HD HPE
    obtain ⟨i, acc, m, rfl, rfl, HU, HD, HPE, hr, hf⟩ := hrel
    have HR := Box.mk hr
    have HF := Box.mk hf
    clear hr hf
    have hi9 := HU.out.i9
    have hpos := HU.out.pos
    by_cases hm : m < 128
    · have hdd := HD.out
      rw [uv_small hm] at hdd
      obtain ⟨hx, -⟩ := drop_step hdd
      have HX := Box.mk hx
      clear hdd hx
      have HEV : Box (bits .or .u64 (acc : Int) (IntKind.u64.wrap (IntKind.u64.wrap (bits .and .u8 (m : Int) 127) * 2 ^ (7 * i))) = (n : Int)) := ⟨by
        have hs := HU.out.sum
        rw [or_step i acc m (by omega) HU.out.i9 HU.out.lt (by rw [Nat.mod_eq_of_lt hm]; have := HN.out; omega), Nat.mod_eq_of_lt hm, ← hs]⟩
      have HPE2 : Box (p + i + 1 = pe) := ⟨by rw [← HPE.out, uv_small hm]; rfl⟩
      go_wp2_with fail
      refine (octet_any h b off c (p + i) m l _ HR.out HX.out hl).mono ?_
      rintro e w1 ⟨rfl, hr1, hf1⟩
      have HR1 := Box.mk hr1
      have HF1 := Box.mk (HF.out.then_ hf1)
      clear hr1 hf1 HR HF
      obtain ⟨r0, r1, r2⟩ := HR1.out.blk.c3
      have hsm : i = 9 → m < 2 := HU.out.small HN.out
      go_upto_region 7 with (fail)
      go_cut [28] (fun z wx => z = .bool false ∧ wx = w1)
      case first =>
        rcases hpos with rfl | hm0
        · go_wp2_with fail
          go_meet
          exact ⟨rfl, rfl⟩
        · have h0 : ((m : Int) == 0) = false := by rw [beq_eq_false_iff_ne]; omega
          by_cases h9 : i = 9
          · have h1 : ¬ (1 : Int) < (m : Int) := by have := hsm h9; omega
            subst h9
            go_wp2_with fail
            go_meet
            exact ⟨rfl, rfl⟩
          · have h9b : ((i : Int) == 9) = false := by rw [beq_eq_false_iff_ne]; omega
            go_wp2_with fail
            all_goals
              go_meet
              exact ⟨by first | rfl | simp, rfl⟩
      case rest =>
        obtain ⟨rfl, hwx⟩ := hcut
        subst hwx
        rename World => w1
        have hev := HEV.out
        go_wp2_with fail
        go_ret
        exact ⟨rfl, by rw [← HPE2.out]; exact HR1.out, HF1.out⟩
    · have hdd := HD.out
      rw [uv_big hm] at hdd
      obtain ⟨hx, hd2⟩ := drop_step hdd
      have HX := Box.mk hx
      have HD2 := Box.mk hd2
      clear hdd hx hd2
      have HUS := Box.mk (HU.out.step HN.out hm)
      have HEV : Box (bits .or .u64 (acc : Int) (IntKind.u64.wrap (IntKind.u64.wrap (bits .and .u8 ((m % 128 + 128 : Nat) : Int) 127) * 2 ^ (7 * i))) = ((acc + m % 128 * 2 ^ (7 * i) : Nat) : Int)) := ⟨by
        have hs := HUS.out.sum
        have e : (m % 128 + 128) % 128 = m % 128 := by omega
        rw [or_step i acc (m % 128 + 128) (by omega) HU.out.i9 HU.out.lt (by rw [e]; have := HN.out; omega), e]⟩
      have HPE2 : Box (p + (i + 1) + (uv (m / 128)).length = pe) := ⟨by rw [← HPE.out, uv_big hm]; simp; omega⟩
      have hxb : m % 128 + 128 < 256 := by omega
      obtain ⟨x, HXX⟩ : ∃ x, Box (m % 128 + 128 = x) := ⟨_, ⟨rfl⟩⟩
      have hx1 : 128 ≤ x := by have := HXX.out; omega
      rw [HXX.out] at HX HEV hxb
      go_wp2_with fail
      refine (octet_any h b off c (p + i) x l _ HR.out HX.out hl).mono ?_
      rintro e w1 ⟨rfl, hr1, hf1⟩
      have HR1 := Box.mk hr1
      have HF1 := Box.mk (HF.out.then_ hf1)
      clear hr1 hf1 HR HF
      obtain ⟨r0, r1, r2⟩ := HR1.out.blk.c3
      have hsm : i = 9 → m < 2 := HU.out.small HN.out
      go_upto_region 7 with (fail)
      go_cut [28] (fun z wx => z = .bool false ∧ wx = w1)
      case first =>
        rcases hpos with rfl | hm0
        · go_wp2_with fail
          go_meet
          exact ⟨rfl, rfl⟩
        · have h0 : ((x : Int) == 0) = false := by rw [beq_eq_false_iff_ne]; omega
          have h9b : ((i : Int) == 9) = false := by rw [beq_eq_false_iff_ne]; have := HU.out.small HN.out; omega
          go_wp2_with fail
          all_goals
            go_meet
            exact ⟨by first | rfl | simp, rfl⟩
      case rest =>
        obtain ⟨rfl, hwx⟩ := hcut
        subst hwx
        rename World => w1
        have hev := HEV.out
        have hx2 : ¬ (x : Int) < 128 := by omega
        go_wp2_with fail
        go_roundw
        case rel => exact ⟨i + 1, _, _, by rfl, by go_num, HUS, by rw [← Nat.add_assoc]; exact HD2, HPE2, by rw [← Nat.add_assoc]; exact HR1.out, HF1.out⟩
        case measure => simp [intOf]; omega
end Go.Proofs.YtinbfdfgebiaeaaDoor
