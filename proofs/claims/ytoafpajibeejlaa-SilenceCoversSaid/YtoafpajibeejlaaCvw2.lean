/- SilenceCovers without premise. -/
import Derived.Test.YtoafpajibeejlaaGen5
import Derived.Test.YtoafpajibeejlaaCvw
import Derived.Test.YtoafpajibeejlaaArgs
namespace Go.Proofs.Ytoafpajibeejlaa
open Go.RowKit
theorem covers_true (s : Sil) (A : Option Addr) (n c : Nat) (kd ve st sn : Int) (ru to_ : ByteArray) (A' : Option Addr) (n' c' : Nat) (ls : List Lab) (cls tick : Int) (A4 : Option Addr) (n4 c4 : Nat) (l : List Int) (w : World)
    (hm : Mats w w.heap.size (.slice A n c) s.ms ∧ SilArg s) (hl : Labs w w.heap.size (.slice A' n' c') ls ∧ ∀ x ∈ ls, LabArg x) (_ : -9223372036854775808 ≤ cls) (_ : cls ≤ 9223372036854775807) (_ : -9223372036854775808 ≤ tick) (_ : tick ≤ 9223372036854775807) (h : Ints w w.heap.size (.slice A4 n4 c4) l) :
    Calls Try.prog 4 #[.agg #[.int .i64 s.id, .slice A n c, .string s.ow, .string s.se, .int .i64 s.cl, .int .i64 s.fr, .int .i64 s.un, .int .i64 s.cp, .int .i64 s.hd], .agg #[.int .i64 kd, .string ru, .int .i64 ve, .slice A' n' c', .int .i64 st, .int .i64 sn, .string to_], .int .i64 cls, .int .i64 tick, .slice A4 n4 c4] w fun e w' => e = .returned (.bool true) ∧ Below w.heap.size w w' :=
  covers_walk (fun A n c base l w h1 h2 => ops_any A n c base l w h1 h2) s.id s.cl s.fr s.un s.cp s.hd s.ow s.se A n c s.ms kd ve st sn ru to_ A' n' c' ls cls tick A4 n4 c4 l w hm.1 hl.1 h
end Go.Proofs.Ytoafpajibeejlaa
