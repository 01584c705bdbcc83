import Derived.Test.YtegahghjancjpaaGreatDoorPiBase
import Derived.Lib.Join
import Derived.Lib.ItoaNum
import Derived.Lib.AtoiAll
import Derived.Lib.Bytealg
namespace PI
open Go (IntKind BinOp UnOp)
def strsOf : List PV → Option (List (List UInt8))
  | [] => some []
  | .str s :: r => (strsOf r).map (s :: ·)
  | _ => none
def pJoin (args : List PV) (h : List PObj) : Option (PV × List PObj) :=
  match args with
  | [.list _ es, .str sep] => (strsOf es).bind fun xs => if xs.length ≤ 140737488355328 ∧ (Go.Lib.join xs sep).length ≤ 140737488355328 then some (.str (Go.Lib.join xs sep), h) else none
  | _ => none
def pIndexByte (args : List PV) (h : List PObj) : Option (PV × List PObj) :=
  match args with
  | [.str s, .int .u8 c] => some (.int .i64 (Go.Lib.indexByte s c.toNat.toUInt8), h)
  | _ => none
def pItoa (args : List PV) (h : List PObj) : Option (PV × List PObj) :=
  match args with
  | [.int .i64 n] => if -9223372036854775808 ≤ n ∧ n ≤ 9223372036854775807 then some (.str (Go.Lib.itoa n), h) else none
  | _ => none
def pAtoi (args : List PV) (h : List PObj) : Option (PV × List PObj) :=
  match args with
  | [.str s] =>
    if s.length ≤ 281474976710656 then
      match Go.Lib.atoiAll s with
      | .ok v => some (.tuple [.int .i64 v, .nilIface], h)
      | Go.Lib.NumEnd.syntax => some (.tuple [.int .i64 0, .iface 0 (.cptr [])], h)
      | .range => some (.tuple [.int .i64 (Go.Lib.atoiSat s), .iface 0 (.cptr [])], h)
    else none
  | _ => none
def pWriteString (args : List PV) (h : List PObj) : Option (PV × List PObj) :=
  match args with
  | [.ptr n 0, .str s] =>
    match h[n]? with
    | some (.bld bs) => if bs.length + s.length ≤ 140737488355328 then some (.tuple [.int .i64 s.length, .nilIface], h.set n (.bld (bs ++ s))) else none
    | _ => none
  | _ => none
def pBString (args : List PV) (h : List PObj) : Option (PV × List PObj) :=
  match args with
  | [.ptr n 0] =>
    match h[n]? with
    | some (.bld bs) => some (.str bs, h.set n .gone)
    | _ => none
  | _ => none
end PI
