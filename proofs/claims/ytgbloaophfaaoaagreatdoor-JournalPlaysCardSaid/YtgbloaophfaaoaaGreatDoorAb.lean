/- Shorter words for variables in memory. -/
import Derived.Test.YtgbloaophfaaoaaGreatDoorFwN
namespace Go.Proofs.YtgbloaophfaaoaaGreatDoor
set_option linter.all false
open Go Go.RowKit Go.Fw
abbrev pP (b : Nat) : Value := .pointer (some ⟨b, 0, none⟩)
abbrev i6 (n : Int) : Value := .int .i64 n
abbrev o0 {t0 : Type} (b : Nat) (a0 : Option Addr) (a1 : List t0) (a2 : Nat) (a3 : Nat) (a4 : Bool) (a5 : Bool) (a6 : Int) (a7 : Int) (a8 : Int) (a9 : Int) (a10 : Int) : HP := pt b #[.slice a0 a1.length a2, .map (some a3), .bool a4, .bool a5, .int .i64 a6, .int .u64 a7, .int .i64 a8, .int .i64 a9, .int .i64 a10] 48
abbrev o1 (b : Nat) (a0 : Nat) (a1 : Int) (a2 : Int) : HP := pt b #[.pointer (some ⟨a0, 0, none⟩), .int .i64 a1, .int .i64 a2] 69
abbrev o2 (b : Nat) (a0 : ByteArray) (a1 : Int) : HP := pt b #[.string a0, .int .i64 a1] 51
abbrev o3 {t5 : Type} (b : Nat) (a0 : Nat) (a1 : Int) (a2 : Int) (a3 : Int) (a4 : Int) (a5 : Option Addr) (a6 : List t5) (a7 : Nat) (a8 : Int) (a9 : Bool) : HP := pt b #[.pointer (some ⟨a0, 0, none⟩), .int .i64 a1, .int .i64 a2, .int .i64 a3, .int .i64 a4, .slice a5 a6.length a7, .int .i64 a8, .bool a9] 62
abbrev o4 (b : Nat) (a0 : Int) (a1 : Int) : HP := pt b #[.int .u64 a0, .int .i64 a1] 35
abbrev o5 {t0 : Type} (b : Nat) (a0 : Option Addr) (a1 : List t0) (a2 : Nat) (a3 : Int) (a4 : Int) : HP := pt b #[.slice a0 a1.length a2, .int .i64 a3, .int .i64 a4] 30
abbrev o6 (b : Nat) (a0 : Int) (a1 : Int) (a2 : Int) (a3 : Int) (a4 : Int) : HP := pt b #[.int .i64 a0, .int .i64 a1, .int .u8 a2, .int .u64 a3, .int .i64 a4] 37
abbrev o7 (b : Nat) (a0 : Int) (a1 : Int) : HP := pt b #[.slice none 0 0, .int .i64 a0, .int .i64 a1] 30
end Go.Proofs.YtgbloaophfaaoaaGreatDoor
