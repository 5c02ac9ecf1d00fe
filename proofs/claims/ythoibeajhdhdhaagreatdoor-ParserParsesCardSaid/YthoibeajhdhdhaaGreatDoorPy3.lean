/- Contracts, packed: Str2 Mq. -/
import Derived.Test.YthoibeajhdhdhaaGreatDoorPy2
import Derived.OrdersHeld
import Derived.Deep.RegionHeld3
set_option linter.unusedVariables false
set_option linter.unusedSimpArgs false
namespace Go.Proofs.YthoibeajhdhdhaaGreatDoor
section
open Go.RowKit
theorem value_next {s : ByteArray} {k : Nat} {hk : k < s.size} (h : ∀ j (hj : j < s.size), j < k → vlB s[j].toNat = true) (h' : vlB s[k].toNat = true) :
  Hid (∀ j (hj : j < s.size), j < k + 1 → vlB s[j].toNat = true) := by
 intro j hj hlt
 rcases Nat.lt_or_ge j k with h1 | h1
 ·exact h j hj h1
 ·obtain rfl : j = k := by omega
  exact h'
theorem decode_ge (s : ByteArray) (pos : Nat) (hp : pos < s.size) (h : ¬ s[pos].toNat < 128) : 128 ≤ (Utf8.decode s pos).1 := by
 have e : s.get! (pos + 0) = s[pos] := get!_of s pos hp
 simp only [Utf8.decode, e, h, if_false]
 repeat' split
 all_goals simp_all [Utf8.runeError]
 all_goals omega
theorem vl_cases (c : Nat) : (c < 33 ∧ vlB c = false) ∨ (33 ≤ c ∧ 126 < c ∧ vlB c = false) ∨ (33 ≤ c ∧ c ≤ 126 ∧ ((c : Int) == 34) = true ∧ vlB c = false) ∨ (33 ≤ c ∧ c ≤ 126 ∧ ((c : Int) == 34) = false ∧ ((c : Int) == 92) = true ∧ vlB c = false) ∨ (33 ≤ c ∧ c ≤ 126 ∧ ((c : Int) == 34) = false ∧ ((c : Int) == 92) = false ∧ ((c : Int) == 44) = true ∧ vlB c = false) ∨ (33 ≤ c ∧ c ≤ 126 ∧ ((c : Int) == 34) = false ∧ ((c : Int) == 92) = false ∧ ((c : Int) == 44) = false ∧ ((c : Int) == 123) = true ∧ vlB c = false) ∨ (33 ≤ c ∧ c ≤ 126 ∧ ((c : Int) == 34) = false ∧ ((c : Int) == 92) = false ∧ ((c : Int) == 44) = false ∧ ((c : Int) == 123) = false ∧ ((c : Int) == 125) = true ∧ vlB c = false) ∨ (33 ≤ c ∧ c ≤ 126 ∧ ((c : Int) == 34) = false ∧ ((c : Int) == 92) = false ∧ ((c : Int) == 44) = false ∧ ((c : Int) == 123) = false ∧ ((c : Int) == 125) = false ∧ vlB c = true) := by
 by_cases h1 : c < 33
 ·exact .inl ⟨h1, by simp [vlB]; omega⟩
 by_cases h2 : 126 < c
 ·exact .inr (.inl ⟨by omega, h2, by simp [vlB]; omega⟩)
 by_cases g34 : c = 34
 ·subst g34; exact .inr (.inr (.inl ⟨by omega, by omega, by simp, by simp [vlB]⟩))
 by_cases g92 : c = 92
 ·subst g92; exact .inr (.inr (.inr (.inl ⟨by omega, by omega, by simp, by simp, by simp [vlB]⟩)))
 by_cases g44 : c = 44
 ·subst g44; exact .inr (.inr (.inr (.inr (.inl ⟨by omega, by omega, by simp, by simp, by simp, by simp [vlB]⟩))))
 by_cases g123 : c = 123
 ·subst g123; exact .inr (.inr (.inr (.inr (.inr (.inl ⟨by omega, by omega, by simp, by simp, by simp, by simp, by simp [vlB]⟩)))))
 by_cases g125 : c = 125
 ·subst g125; exact .inr (.inr (.inr (.inr (.inr (.inr (.inl ⟨by omega, by omega, by simp, by simp, by simp, by simp, by simp, by simp [vlB]⟩))))))
 exact .inr (.inr (.inr (.inr (.inr (.inr (.inr (⟨by omega, by omega, by simp; omega, by simp; omega, by simp; omega, by simp; omega, by simp; omega, by simp [vlB, g34, g92, g44, g123, g125]; omega⟩)))))))
set_option maxHeartbeats 1000000 in
theorem rvalue_any (s : ByteArray) (w : World) (hs : s.size ≤ maxLen) :
  Calls Tryz.prog 107 #[.string s] w fun e w' => e = .returned (.bool (valueB s)) ∧ w = w' := by
 unfold maxLen at hs
 by_cases h2 : 16 < s.size
 ·have E := Lib.hid (valueB_long h2)
  go_enter Tryz.func107, Tryz.ntmps107
  go_wp2
  go_ret
  exact ⟨ret_bool (by rw [E.out]), rfl⟩
 go_enter Tryz.func107, Tryz.ntmps107
 go_wp2
 go_loop [3] (fun i => ∃ k : Nat, k ≤ s.size ∧ i = .int .i64 k ∧ Hid (∀ j (hj : j < s.size), j < k → vlB s[j].toNat = true)) (fun i => s.size - (intOf i).toNat)
 case atStart => exact ⟨0, Nat.zero_le _, rfl, fun j hj h => absurd h (by omega)⟩
 case round =>
  obtain ⟨k, hk, rfl, HK⟩ := hrel
  by_cases hlt : k < s.size
  ·rcases vl_cases s[k].toNat with ⟨c1, hv⟩ | ⟨c1, c2, hv⟩ | ⟨c1, c2, g34, hv⟩ | ⟨c1, c2, g34, g92, hv⟩ | ⟨c1, c2, g34, g92, g44, hv⟩ | ⟨c1, c2, g34, g92, g44, g123, hv⟩ | ⟨c1, c2, g34, g92, g44, g123, g125, hv⟩ | ⟨c1, c2, g34, g92, g44, g123, g125, hv⟩
   ·have HV := Lib.hid (valueB_false k hlt hv); clear hv
    go_wp2
    go_ret
    exact ⟨ret_bool (by rw [HV.out]), rfl⟩
   ·have HV := Lib.hid (valueB_false k hlt hv); clear hv
    go_wp2
    go_ret
    exact ⟨ret_bool (by rw [HV.out]), rfl⟩
   ·have HV := Lib.hid (valueB_false k hlt hv); clear hv
    go_wp2
    go_ret
    exact ⟨ret_bool (by rw [HV.out]), rfl⟩
   ·have HV := Lib.hid (valueB_false k hlt hv); clear hv
    go_wp2
    go_ret
    exact ⟨ret_bool (by rw [HV.out]), rfl⟩
   ·have HV := Lib.hid (valueB_false k hlt hv); clear hv
    go_wp2
    go_ret
    exact ⟨ret_bool (by rw [HV.out]), rfl⟩
   ·have HV := Lib.hid (valueB_false k hlt hv); clear hv
    go_wp2
    go_ret
    exact ⟨ret_bool (by rw [HV.out]), rfl⟩
   ·have HV := Lib.hid (valueB_false k hlt hv); clear hv
    go_wp2
    go_ret
    exact ⟨ret_bool (by rw [HV.out]), rfl⟩
   ·have HV := Lib.hid hv; clear hv
    go_wp2
    go_round
    case rel => exact ⟨k + 1, by omega, by go_num, value_next HK.out HV.out⟩
    case measure => simp [intOf]; omega
  ·go_wp2
   go_ret
   exact ⟨ret_bool (by rw [valueB_true (by omega) (fun j hj => HK.out j hj (by omega))]), rfl⟩
set_option maxHeartbeats 1000000 in
theorem value_any (s : ByteArray) (w : World) (hs : s.size ≤ maxLen) :
  Calls Tryz.prog 132 #[.string s] w fun e w' => e = .returned (.bool (valueB s)) ∧ Below w.heap.size w w' := by
 unfold maxLen at hs
 by_cases h2 : 16 < s.size
 ·have E := Lib.hid (valueB_long h2)
  go_enter Tryz.func132, Tryz.ntmps132
  go_wp2
  go_ret
  exact ⟨ret_bool (by rw [E.out]), Below.refl _ _⟩
 go_enter Tryz.func132, Tryz.ntmps132
 go_wp2
 go_loopw [] (fun wr => ∃ k : Nat, k ≤ s.size ∧ wr = w.iter s k ∧ Hid (∀ j (hj : j < s.size), j < k → vlB s[j].toNat = true)) (fun wr => s.size - wr.iterPos w.heap.size)
 case atStart => exact ⟨0, Nat.zero_le _, rfl, fun j hj h => absurd h (by omega)⟩
 case round =>
  obtain ⟨k, hk, rfl, HK⟩ := hrel
  by_cases hlt : k < s.size
  ·by_cases ha : s[k].toNat < 128
   ·have hnx := fun ty => run_next_ascii (P := Tryz.prog) w s k ty hlt ha
    rcases vl_cases s[k].toNat with ⟨c1, hv⟩ | ⟨c1, c2, hv⟩ | ⟨c1, c2, g34, hv⟩ | ⟨c1, c2, g34, g92, hv⟩ | ⟨c1, c2, g34, g92, g44, hv⟩ | ⟨c1, c2, g34, g92, g44, g123, hv⟩ | ⟨c1, c2, g34, g92, g44, g123, g125, hv⟩ | ⟨c1, c2, g34, g92, g44, g123, g125, hv⟩
    ·have HV := Lib.hid (valueB_false k hlt hv); clear hv
     go_wp2
     go_ret
     exact ⟨ret_bool (by rw [HV.out]), (Below.refl _ _).alloc (Nat.le_refl _) _⟩
    ·have HV := Lib.hid (valueB_false k hlt hv); clear hv
     go_wp2
     go_ret
     exact ⟨ret_bool (by rw [HV.out]), (Below.refl _ _).alloc (Nat.le_refl _) _⟩
    ·have HV := Lib.hid (valueB_false k hlt hv); clear hv
     go_wp2
     go_ret
     exact ⟨ret_bool (by rw [HV.out]), (Below.refl _ _).alloc (Nat.le_refl _) _⟩
    ·have HV := Lib.hid (valueB_false k hlt hv); clear hv
     go_wp2
     go_ret
     exact ⟨ret_bool (by rw [HV.out]), (Below.refl _ _).alloc (Nat.le_refl _) _⟩
    ·have HV := Lib.hid (valueB_false k hlt hv); clear hv
     go_wp2
     go_ret
     exact ⟨ret_bool (by rw [HV.out]), (Below.refl _ _).alloc (Nat.le_refl _) _⟩
    ·have HV := Lib.hid (valueB_false k hlt hv); clear hv
     go_wp2
     go_ret
     exact ⟨ret_bool (by rw [HV.out]), (Below.refl _ _).alloc (Nat.le_refl _) _⟩
    ·have HV := Lib.hid (valueB_false k hlt hv); clear hv
     go_wp2
     go_ret
     exact ⟨ret_bool (by rw [HV.out]), (Below.refl _ _).alloc (Nat.le_refl _) _⟩
    ·have HV := Lib.hid hv; clear hv
     go_wp2
     go_roundw
     case rel => exact ⟨k + 1, by omega, rfl, value_next HK.out HV.out⟩
     case measure => simp; omega
   ·have hd := decode_ge s k hlt ha
    have hnx := fun ty => run_next_any (P := Tryz.prog) w s k ty hlt
    have HV := Lib.hid (valueB_false k hlt (by simp [vlB]; omega))
    go_wp2
    go_ret
    exact ⟨ret_bool (by rw [HV.out]), (Below.refl _ _).alloc (Nat.le_refl _) _⟩
  ·have hnx := fun ty => run_next_end (P := Tryz.prog) w s k ty hlt
   go_wp2
   go_ret
   exact ⟨ret_bool (by rw [valueB_true (by omega) (fun j hj => HK.out j hj (by omega))]), (Below.refl _ _).alloc (Nat.le_refl _) _⟩
set_option maxHeartbeats 1000000 in
theorem name_any (s : ByteArray) (w : World) (hs : s.size ≤ maxLen) :
  Calls Tryz.prog 109 #[.string s] w fun e w' => e = .returned (.bool (nameB s)) ∧ Below w.heap.size w w' := by
 unfold maxLen at hs
 by_cases h1 : s.size < 1
 ·have E := Lib.hid (nameB_short (.inl h1))
  go_enter Tryz.func109, Tryz.ntmps109
  go_wp2
  go_ret
  exact ⟨ret_bool (by rw [E.out]), Below.refl _ _⟩
 by_cases h2 : 16 < s.size
 ·have E := Lib.hid (nameB_short (.inr h2))
  go_enter Tryz.func109, Tryz.ntmps109
  go_wp2
  go_ret
  exact ⟨ret_bool (by rw [E.out]), Below.refl _ _⟩
 go_enter Tryz.func109, Tryz.ntmps109
 go_wp2
 go_loopw [] (fun wr => ∃ k : Nat, k ≤ s.size ∧ wr = w.iter s k ∧ Hid (∀ j (hj : j < s.size), j < k → nmB (j == 0) s[j].toNat = true)) (fun wr => s.size - wr.iterPos w.heap.size)
 case atStart => exact ⟨0, Nat.zero_le _, rfl, fun j hj h => absurd h (by omega)⟩
 case round =>
  obtain ⟨k, hk, rfl, HK⟩ := hrel
  by_cases hlt : k < s.size
  ·by_cases ha : s[k].toNat < 128
   ·have hnx := fun ty => run_next_ascii (P := Tryz.prog) w s k ty hlt ha
    by_cases hl : lettB s[k].toNat = true
    ·have HN := Lib.hid (nm_1 (k == 0) hl)
     have hl1 : 97 ≤ s[k].toNat ∧ s[k].toNat ≤ 122 := by simpa [lettB] using hl
     obtain ⟨hl2, hl3⟩ := hl1
     clear hl
     go_wp2
     all_goals
      go_roundw
      case rel => exact ⟨k + 1, by omega, rfl, name_next HK.out HN.out⟩
      case measure => simp; omega
    have hl' : lettB s[k].toNat = false := by simpa using hl
    have hl2 : s[k].toNat < 97 ∨ 122 < s[k].toNat := by simp [lettB] at hl'; omega
    clear hl
    by_cases h0 : k = 0
    ·subst h0
     have HN := Lib.hid (nameB_false 0 hlt (nm_2 hl'))
     clear hl'
     rcases hl2 with hl2 | hl2
     ·go_wp2
      all_goals
       go_ret
       exact ⟨ret_bool (by rw [HN.out]), (Below.refl _ _).alloc (Nat.le_refl _) _⟩
     ·have hl3 : decide ((s[0].toNat : Int) ≤ 122) = false := by simp; omega
      go_wp2
      all_goals
       go_ret
       exact ⟨ret_bool (by rw [HN.out]), (Below.refl _ _).alloc (Nat.le_refl _) _⟩
    have h0' : ((k : Int) == 0) = false := by simp; omega
    rcases oth_cases s[k].toNat with ⟨hb, hc, ho⟩ | ⟨hb, hc, hd, ho⟩ | ⟨hd, ho, hab⟩
    ·have HN := Lib.hid (nm_3 h0 ho); clear ho hl' hl2
     have hn95 : ((s[k].toNat : Int) != 95) = true := by simp; omega
     go_wp2
     all_goals
      go_roundw
      case rel => exact ⟨k + 1, by omega, rfl, name_next HK.out HN.out⟩
      case measure => simp; omega
    ·have HN := Lib.hid (nm_3 h0 ho); clear ho hl' hl2
     have hn95 : ((s[k].toNat : Int) != 95) = false := by simpa [bne] using hd
     have hu : s[k].toNat < 97 := by simp at hd; omega
     go_wp2
     all_goals
      go_roundw
      case rel => exact ⟨k + 1, by omega, rfl, name_next HK.out HN.out⟩
      case measure => simp; omega
    ·have HN := Lib.hid (nameB_false k hlt (nm_4 hl' ho)); clear ho hl'
     have hn95 : ((s[k].toNat : Int) != 95) = true := by simpa [bne] using hd
     rcases hab with hb | hb
     ·go_wp2
      all_goals
       go_ret
       exact ⟨ret_bool (by rw [HN.out]), (Below.refl _ _).alloc (Nat.le_refl _) _⟩
     ·rcases hl2 with hl2 | hl2
      ·go_wp2
       all_goals
        go_ret
        exact ⟨ret_bool (by rw [HN.out]), (Below.refl _ _).alloc (Nat.le_refl _) _⟩
      ·have hl3 : decide ((s[k].toNat : Int) ≤ 122) = false := by simp; omega
       go_wp2
       all_goals
        go_ret
        exact ⟨ret_bool (by rw [HN.out]), (Below.refl _ _).alloc (Nat.le_refl _) _⟩
   ·have hd := decode_ge s k hlt ha
    have hnx := fun ty => run_next_any (P := Tryz.prog) w s k ty hlt
    have HN := Lib.hid (nameB_false k hlt (nm_4 (by simp [lettB]; omega) (by simp [othB]; omega)))
    have hl3 : decide (((Utf8.decode s k).1 : Int) ≤ 122) = false := by simp; omega
    have hn95 : (((Utf8.decode s k).1 : Int) != 95) = true := by simp; omega
    by_cases h0 : k = 0
    ·subst h0
     go_wp2
     all_goals
      go_ret
      exact ⟨ret_bool (by rw [HN.out]), (Below.refl _ _).alloc (Nat.le_refl _) _⟩
    ·have h0' : ((k : Int) == 0) = false := by simp; omega
     go_wp2
     all_goals
      go_ret
      exact ⟨ret_bool (by rw [HN.out]), (Below.refl _ _).alloc (Nat.le_refl _) _⟩
  ·have hnx := fun ty => run_next_end (P := Tryz.prog) w s k ty hlt
   go_wp2
   go_ret
   exact ⟨ret_bool (by rw [nameB_true (by omega) (by omega) (fun j hj => HK.out j hj (by omega))]), (Below.refl _ _).alloc (Nat.le_refl _) _⟩
end
section
open Go Go.RowKit
section
variable {P : Program} {ops : Array Oper} {Q : Exit → Act → World → Prop} {md : Region.Mode} {S : World → Prop}
/-- o leaves v in its temporary and does nothing else, in every world that meets S; it may be a call -/
def YieldsQ (P : Program) (ops : Array Oper) (S : World → Prop) (o : Oper) (v : Value) (a : Act) : Prop :=
 (Region.wanted o (yielded ops a.tmps) = true ∧ ∀ w, S w → ((execOp a.eval o).run P w = .ok (.value v) w ∨ ∃ f args, (execOp a.eval o).run P w = .ok (.enter f args) w ∧ Calls P f args w fun e w' => e = .returned v ∧ w' = w)) ∨
 (Region.wanted o (yielded ops a.tmps) = false ∧ v = undef)
theorem YieldsQ.wpOp {i : Nat} {o : Oper} {v : Value} {a : Act} (hi : ops[i]? = some o) (hy : YieldsQ P ops S o v a)
  {K : Act → World → Prop} {w : World} (hS : S w) (h : K (a.put o.dst v) w) : wpOp P ops Q i K a w := by
 unfold Go.wpOp
 simp only [hi]
 rcases hy with ⟨hw, hv⟩ | ⟨hw, rfl⟩
 ·rcases hv w hS with hv | ⟨f, args, hr, hc⟩
  ·simp only [hw, if_true, Oper.wp, hv, Oper.upon]; exact .inl h
  ·simp only [hw, if_true, Oper.wp, hr, Oper.upon]
   refine .inl (Calls.mono hc fun e w' he => ?_)
   obtain ⟨rfl, rfl⟩ := he
   exact h
 ·simp only [hw, Bool.false_eq_true, if_false]; exact h
theorem YieldsQ.of_same {o : Oper} {v : Value} {a a' : Act} (hy : YieldsQ P ops S o v a) (he : execOp a'.eval o = execOp a.eval o)
  (hw : Region.wanted o (yielded ops a'.tmps) = Region.wanted o (yielded ops a.tmps)) : YieldsQ P ops S o v a' := by
 unfold YieldsQ at *
 rw [he, hw]
 exact hy
theorem wpOp_putQ {j : Nat} {oi oj : Oper} {v : Value} (hj : ops[j]? = some oj) (hap : oi.apart ops oj = true)
  (hsi : ∀ cs b, oi.op ≠ .select cs b) (hsj : ∀ cs b, oj.op ≠ .select cs b)
  (hQ : ∀ c a w, Q (.panic c) (a.put oi.dst v) w → Q (.panic c) a w) {K : Act → World → Prop} {a : Act} {w : World}
  (hy : YieldsQ P ops S oi v a) (h : wpOp P ops Q j K (a.put oi.dst v) w) :
  wpOp P ops Q j (fun a' w' => YieldsQ P ops S oi v a' ∧ K (a'.put oi.dst v) w') a w := by
 obtain ⟨h1, h2, h3⟩ := Oper.apart_spec hap
 have keep : ∀ (a : Act), YieldsQ P ops S oi v a → ∀ u, YieldsQ P ops S oi v (a.put oj.dst u) := fun a hy u =>
  hy.of_same (execOp_put oi hsi a oj.dst u h3) (wanted_put oi a oj.dst u h3)
 have keepD : ∀ d, YieldsQ P ops S oi v { a with defers := d :: a.defers } := fun d => hy.of_same rfl rfl
 unfold wpOp at *
 simp only [hj] at *
 rw [wanted_put oj a oi.dst v h1] at h
 split
 ·rename_i hw
  simp only [hw, if_true] at h
  rcases h with h | ⟨hasks, hlets⟩
  case inr => exact .inr ⟨by unfold Oper.asks at *; rw [execOp_put oj hsj a oi.dst v h1] at hasks; exact hasks, hlets⟩
  refine .inl ?_
  unfold Oper.wp at *
  rw [execOp_put oj hsj a oi.dst v h1] at h
  generalize (execOp a.eval oj).run P w = r at *
  cases r with
  | ok n w' =>
   cases n <;> simp only [Oper.upon] at h ⊢
   case value u => exact ⟨keep a hy u, by rw [← Act.put_comm a v u h2]; exact h⟩
   case skip => exact ⟨keep a hy _, by rw [← Act.put_comm a v undef h2]; exact h⟩
   case defer d =>
    refine ⟨keep _ (keepD d) _, ?_⟩
    rw [← Act.put_comm _ v undef h2, ← Act.put_defers]
    exact h
   case enter f args =>
    refine Calls.mono h fun e w'' he => ?_
    cases e with
    | returned u => exact ⟨keep a hy u, by rw [← Act.put_comm a v u h2]; exact he⟩
    | panicked c => exact hQ _ _ _ he
    | outgrown => exact he
   case row row args => exact Rows.mono h fun u w'' he => ⟨keep a hy u, by rw [← Act.put_comm a v u h2]; exact he⟩
  | halt x w' =>
   cases x <;> simp only [Oper.upon] at h ⊢
   case panic u => exact hQ _ _ _ h
 ·rename_i hw
  simp only [hw] at h
  exact ⟨keep a hy _, by rw [← Act.put_comm a v undef h2]; exact h⟩
theorem wpAnyH_firstQ {i : Nat} {oi : Oper} {v : Value} (hi : ops[i]? = some oi) (hsel : ∀ (j : Nat) (o : Oper) cs b, ops[j]? = some o → o.op ≠ .select cs b)
  (hQ : ∀ c a w, Q (.panic c) (a.put oi.dst v) w → Q (.panic c) a w) :
  ∀ (fuel : Nat) (listed : Array Bool) (a : Act) (w : World),
   (∀ j oj, ops[j]? = some oj → j ≠ i → listed.getD j true = false → (∀ e ∈ oj.after, Region.binds md e = true → e.on ≠ i) → oi.apart ops oj = true) →
   i ∈ Region.ready md ops listed → YieldsQ P ops S oi v a → S w →
   wpAnyH P md ops Q S fuel (listed.setIfInBounds i true) (a.put oi.dst v) w → wpAnyH P md ops Q S (fuel + 1) listed a w := by
 intro fuel
 induction fuel with
 | zero =>
  intro listed a w _ hr hy hS H
  refine ⟨fun h => (by rw [h] at hr; cases hr), fun j hj => ?_⟩
  by_cases hji : j = i
  ·subst hji; exact hy.wpOp hi hS ⟨hS, H⟩
  ·have := ready_mono hj hji
   rw [H.1] at this
   cases this
 | succ fuel ih =>
  intro listed a w hfree hr hy hS H
  refine ⟨fun h => (by rw [h] at hr; cases hr), fun j hj => ?_⟩
  by_cases hji : j = i
  ·subst hji; exact hy.wpOp hi hS ⟨hS, H⟩
  ·have h1 := H.2 j (ready_mono hj hji)
   obtain ⟨hjun, oj, hoj, hall⟩ := mem_ready.1 hj
   have hnot : ∀ e ∈ oj.after, Region.binds md e = true → e.on ≠ i := fun e he hb heq => by
    have h1 := hall e he hb
    have h0 := (mem_ready.1 hr).1
    rw [heq] at h1
    rcases Nat.lt_or_ge i listed.size with h' | h'
    ·simp [h'] at h0 h1; rw [h0] at h1; cases h1
    ·simp [Array.getElem?_eq_none h'] at h1
   have h2 := wpOp_putQ hoj (hfree j oj hoj hji hjun hnot) (fun cs b => hsel i oi cs b hi) (fun cs b => hsel j oj cs b hoj) hQ hy h1
   have hfree' : ∀ k ok, ops[k]? = some ok → k ≠ i → (listed.setIfInBounds j true).getD k true = false →
     (∀ e ∈ ok.after, Region.binds md e = true → e.on ≠ i) → oi.apart ops ok = true := fun k ok hk hki hun hno => by
    refine hfree k ok hk hki ?_ hno
    by_cases hjk : j = k
    ·subst hjk; exact hjun
    ·rw [getD_set_ne true hjk] at hun; exact hun
   refine wpOp_mono (fun a' w' h3 => ⟨h3.2.1, ih (listed.setIfInBounds j true) a' w' hfree' (ready_mono hr (Ne.symm hji)) h3.1 h3.2.1 ?_⟩) h2
   rw [Array.setIfInBounds_comm _ _ hji]
   exact h3.2.2
/-- a call that leaves the world as it is, taken first -/
theorem wpAnyH_takeQ {i : Nat} {oi : Oper} {v : Value} {fuel : Nat} {listed : Array Bool} {a : Act} {w : World} (f : FuncId) (args : Array Value) (hi : ops[i]? = some oi)
  (hs : Region.noSelect ops = true) (hf : Region.free md ops listed i = true) (hr : (Region.ready md ops listed).contains i = true)
  (hQ : ∀ c a w, Q (.panic c) (a.put oi.dst v) w → Q (.panic c) a w) (hw : Region.wanted oi (yielded ops a.tmps) = true)
  (hrun : ∀ w, (execOp a.eval oi).run P w = .ok (.enter f args) w) (hy : ∀ w, S w → Calls P f args w fun e w' => e = .returned v ∧ w' = w) (hS : S w)
  (h : wpAnyH P md ops Q S fuel (listed.setIfInBounds i true) (a.put oi.dst v) w) : wpAnyH P md ops Q S (fuel + 1) listed a w :=
 wpAnyH_firstQ hi (Region.noSelect_spec hs) hQ fuel listed a w (Region.free_spec hi hf) (by simpa using hr) (.inl ⟨hw, fun w hw => .inr ⟨f, args, hrun w, hy w hw⟩⟩) hS h
/-- the condition may grow in the midst of a region -/
theorem wpAnyH_grow {S2 : World → Prop} (hS : ∀ w, S2 w → S w) : ∀ {fuel : Nat} {listed : Array Bool} {a : Act} {w : World}, wpAnyH P md ops Q S2 fuel listed a w → wpAnyH P md ops Q S fuel listed a w := by
 intro fuel
 induction fuel with
 | zero => intro listed a w h; exact h
 | succ fuel ih =>
  intro listed a w h
  exact ⟨h.1, fun i hi => wpOp_mono (fun a' w' h' => ⟨hS _ h'.1, ih h'.2⟩) (h.2 i hi)⟩
theorem wpAnyH_op {fuel : Nat} {listed : Array Bool} {a : Act} {w : World} {i : Nat} {o : Oper} (ho : ops[i]? = some o)
  (h : ∀ K' : Act → World → Prop, Shut (∀ a w, S w → (S w → wpAnyH P md ops Q S fuel (listed.setIfInBounds i true) a w) → K' a w) → if Region.wanted o (yielded ops a.tmps) = true then Oper.wp P o a w K' Q else K' (a.put o.dst undef) w) :
  wpOp P ops Q i (fun a' w' => S w' ∧ wpAnyH P md ops Q S fuel (listed.setIfInBounds i true) a' w') a w :=
 wpOp_step ho (fun K' hK => h K' (fun a w hS hW => hK a w ⟨hS, hW hS⟩))
theorem wpAnyH_one {fuel : Nat} {listed : Array Bool} {a : Act} {w : World} (i : Nat) {o : Oper} (hr : Region.ready md ops listed = [i]) (ho : ops[i]? = some o)
  (h : ∀ K' : Act → World → Prop, Shut (∀ a w, S w → (S w → wpAnyH P md ops Q S fuel (listed.setIfInBounds i true) a w) → K' a w) → if Region.wanted o (yielded ops a.tmps) = true then Oper.wp P o a w K' Q else K' (a.put o.dst undef) w) : wpAnyH P md ops Q S (fuel + 1) listed a w :=
 wpAnyH_all hr (by simp) fun j hj => by
  rw [List.mem_singleton] at hj
  subst hj
  exact wpAnyH_op ho h
theorem wpAnyH_two {fuel : Nat} {listed : Array Bool} {a : Act} {w : World} (i j : Nat) {o p : Oper} (hr : Region.ready md ops listed = [i, j]) (ho : ops[i]? = some o) (hp : ops[j]? = some p)
  (h1 : ∀ K' : Act → World → Prop, Shut (∀ a w, S w → (S w → wpAnyH P md ops Q S fuel (listed.setIfInBounds i true) a w) → K' a w) → if Region.wanted o (yielded ops a.tmps) = true then Oper.wp P o a w K' Q else K' (a.put o.dst undef) w)
  (h2 : ∀ K' : Act → World → Prop, Shut (∀ a w, S w → (S w → wpAnyH P md ops Q S fuel (listed.setIfInBounds j true) a w) → K' a w) → if Region.wanted p (yielded ops a.tmps) = true then Oper.wp P p a w K' Q else K' (a.put p.dst undef) w) : wpAnyH P md ops Q S (fuel + 1) listed a w :=
 wpAnyH_all hr (by simp) fun k hk => by
  rw [List.mem_cons, List.mem_singleton] at hk
  rcases hk with hk | hk
  ·subst hk; exact wpAnyH_op ho h1
  ·subst hk; exact wpAnyH_op hp h2
theorem wp_region_H {id : Nat} {a : Act} {w : World} (hm : P.follows .mixedOrders = true) (hS : S w.drew)
  (h : S w.drew → wpAnyH P .any ops Q S ops.size (Array.replicate ops.size false) a w.drew) : (Code.region id ops true).wp P Q a w :=
 wp_region_held (S := S) hm (h hS)
end
end
end Go.Proofs.YthoibeajhdhdhaaGreatDoor
