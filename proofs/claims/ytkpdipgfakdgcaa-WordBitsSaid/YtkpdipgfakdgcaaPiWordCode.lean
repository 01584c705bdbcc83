/-
  The functions, as the pure interpreter has them. Written by program (mk.py).
-/
import Derived.Test.YtkpdipgfakdgcaaPiBase
namespace PI.Word
open Go (IntKind BinOp UnOp)

/-- 0 -/
def f_law01_WordBits : PFunc := ⟨2, 4,
(.seq (.region [⟨.v 2, .take (.c (.bool false)), none⟩])
(.seq (.region [⟨.l, .mov (.v 0), none⟩,
  ⟨.l, .pcall 6 [(.l 0)], none⟩,
  ⟨.v 3, .take (.l 1), none⟩])
(.seq (.branch [⟨.l, .mov (.v 3), none⟩,
  ⟨.l, .mov (.v 0), none⟩,
  ⟨.l, .pcall 7 [(.l 1)], none⟩,
  ⟨.l, .bin .neq (.l 0) (.l 2), none⟩,
  ⟨.l, .mov (.l 3), none⟩,
  ⟨.l, .mov (.v 1), some ((.l 4), false)⟩,
  ⟨.l, .pcall 8 [(.l 5)], some ((.l 4), false)⟩,
  ⟨.l, .pcall 6 [(.l 6)], some ((.l 4), false)⟩,
  ⟨.l, .mov (.v 1), some ((.l 4), false)⟩,
  ⟨.l, .pcall 9 [(.l 8)], some ((.l 4), false)⟩,
  ⟨.l, .bin .neq (.l 7) (.l 9), some ((.l 4), false)⟩,
  ⟨.l, .pick (.l 4) (.c (.bool true)) (.l 10), none⟩] (.l 11)
(.seq (.region [⟨.v 2, .take (.c (.bool false)), none⟩])
.ret)
.skip)
(.seq (.branch [⟨.l, .mov (.v 0), none⟩,
  ⟨.l, .len false (.l 0), none⟩,
  ⟨.l, .bin .neq (.l 1) (.c (.int .i64 16)), none⟩] (.l 2)
(.seq (.region [⟨.l, .pcall 10 [], none⟩,
  ⟨.v 2, .take (.l 0), none⟩])
.ret)
.skip)
(.seq (.region [⟨.l, .mov (.v 3), none⟩,
  ⟨.l, .pcall 8 [(.l 0)], none⟩,
  ⟨.l, .mov (.v 0), none⟩,
  ⟨.l, .pcall 11 [(.l 1), (.l 2)], none⟩,
  ⟨.l, .mov (.l 3), none⟩,
  ⟨.l, .pcall 10 [], some ((.l 4), true)⟩,
  ⟨.l, .pick (.l 4) (.l 5) (.c (.bool false)), none⟩,
  ⟨.v 2, .take (.l 6), none⟩])
.ret))))),
[.var 2]⟩

/-- 1 -/
def f_law01_WordDivides : PFunc := ⟨2, 7,
(.seq (.region [⟨.v 2, .take (.c (.bool false)), none⟩])
(.seq (.region [⟨.l, .mov (.v 0), none⟩,
  ⟨.l, .pcall 9 [(.l 0)], none⟩,
  ⟨.l, .mov (.v 1), none⟩,
  ⟨.l, .pcall 9 [(.l 2)], none⟩,
  ⟨.v 3, .take (.l 1), none⟩,
  ⟨.v 4, .take (.l 3), none⟩])
(.seq (.region [⟨.l, .mov (.v 0), none⟩,
  ⟨.l, .mov (.v 1), none⟩,
  ⟨.l, .pcall 12 [(.l 0), (.l 1)], none⟩,
  ⟨.l, .mov (.v 0), none⟩,
  ⟨.l, .mov (.v 1), none⟩,
  ⟨.l, .pcall 13 [(.l 3), (.l 4)], none⟩,
  ⟨.v 5, .take (.l 2), none⟩,
  ⟨.v 6, .take (.l 5), none⟩])
(.seq (.branch [⟨.l, .mov (.v 4), none⟩,
  ⟨.l, .bin .eql (.l 0) (.c (.int .i64 0)), none⟩] (.l 1)
(.seq (.region [⟨.l, .mov (.v 5), none⟩,
  ⟨.l, .bin .eql (.l 0) (.c (.int .i64 0)), none⟩,
  ⟨.l, .mov (.l 1), none⟩,
  ⟨.l, .mov (.v 6), some ((.l 2), true)⟩,
  ⟨.l, .mov (.v 3), some ((.l 2), true)⟩,
  ⟨.l, .bin .eql (.l 3) (.l 4), some ((.l 2), true)⟩,
  ⟨.l, .pick (.l 2) (.l 5) (.c (.bool false)), none⟩,
  ⟨.l, .mov (.l 6), none⟩,
  ⟨.l, .pcall 10 [], some ((.l 7), true)⟩,
  ⟨.l, .pick (.l 7) (.l 8) (.c (.bool false)), none⟩,
  ⟨.v 2, .take (.l 9), none⟩])
.ret)
.skip)
(.seq (.branch [⟨.l, .mov (.v 5), none⟩,
  ⟨.l, .mov (.v 4), none⟩,
  ⟨.l, .pcall 15 [(.l 0), (.l 1)], none⟩,
  ⟨.l, .mov (.v 6), none⟩,
  ⟨.l, .pcall 14 [(.l 2), (.l 3)], none⟩,
  ⟨.l, .mov (.v 3), none⟩,
  ⟨.l, .bin .neq (.l 4) (.l 5), none⟩,
  ⟨.l, .mov (.l 6), none⟩,
  ⟨.l, .mov (.v 6), some ((.l 7), false)⟩,
  ⟨.l, .bin .gtr (.l 8) (.c (.int .i64 0)), some ((.l 7), false)⟩,
  ⟨.l, .mov (.l 9), some ((.l 7), false)⟩,
  ⟨.l, .mov (.v 3), some ((.l 10), true)⟩,
  ⟨.l, .bin .lss (.l 11) (.c (.int .i64 0)), some ((.l 10), true)⟩,
  ⟨.l, .pick (.l 10) (.l 12) (.c (.bool false)), some ((.l 7), false)⟩,
  ⟨.l, .pick (.l 7) (.c (.bool true)) (.l 13), none⟩,
  ⟨.l, .mov (.l 14), none⟩,
  ⟨.l, .mov (.v 6), some ((.l 15), false)⟩,
  ⟨.l, .bin .lss (.l 16) (.c (.int .i64 0)), some ((.l 15), false)⟩,
  ⟨.l, .mov (.l 17), some ((.l 15), false)⟩,
  ⟨.l, .mov (.v 3), some ((.l 18), true)⟩,
  ⟨.l, .bin .gtr (.l 19) (.c (.int .i64 0)), some ((.l 18), true)⟩,
  ⟨.l, .pick (.l 18) (.l 20) (.c (.bool false)), some ((.l 15), false)⟩,
  ⟨.l, .pick (.l 15) (.c (.bool true)) (.l 21), none⟩] (.l 22)
(.seq (.region [⟨.v 2, .take (.c (.bool false)), none⟩])
.ret)
.skip)
(.seq (.region [⟨.l, .mov (.v 6), none⟩,
  ⟨.l, .mov (.v 6), none⟩,
  ⟨.l, .un .neg (.l 1), none⟩,
  ⟨.l, .minmax true [(.l 0), (.l 2)], none⟩,
  ⟨.l, .mov (.v 4), none⟩,
  ⟨.l, .mov (.v 4), none⟩,
  ⟨.l, .un .neg (.l 5), none⟩,
  ⟨.l, .minmax true [(.l 4), (.l 6)], none⟩,
  ⟨.l, .bin .lss (.l 3) (.l 7), none⟩,
  ⟨.l, .mov (.l 8), none⟩,
  ⟨.l, .pcall 10 [], some ((.l 9), true)⟩,
  ⟨.l, .pick (.l 9) (.l 10) (.c (.bool false)), none⟩,
  ⟨.v 2, .take (.l 11), none⟩])
.ret)))))),
[.var 2]⟩

/-- 2 -/
def f_law01_WordOnes : PFunc := ⟨1, 2,
(.seq (.region [⟨.v 1, .take (.c (.bool false)), none⟩])
(.seq (.region [⟨.l, .mov (.v 0), none⟩,
  ⟨.l, .pcall 16 [(.l 0)], none⟩,
  ⟨.l, .mov (.v 0), none⟩,
  ⟨.l, .pcall 17 [(.l 2)], none⟩,
  ⟨.l, .eq false false [.b] (.l 1) (.l 3), none⟩,
  ⟨.l, .mov (.l 4), none⟩,
  ⟨.l, .mov (.v 0), some ((.l 5), true)⟩,
  ⟨.l, .pcall 9 [(.l 6)], some ((.l 5), true)⟩,
  ⟨.l, .mov (.v 0), some ((.l 5), true)⟩,
  ⟨.l, .pcall 18 [(.l 8)], some ((.l 5), true)⟩,
  ⟨.l, .bin .eql (.l 7) (.l 9), some ((.l 5), true)⟩,
  ⟨.l, .pick (.l 5) (.l 10) (.c (.bool false)), none⟩,
  ⟨.l, .mov (.l 11), none⟩,
  ⟨.l, .mov (.v 0), some ((.l 12), true)⟩,
  ⟨.l, .pcall 19 [(.l 13)], some ((.l 12), true)⟩,
  ⟨.l, .mov (.v 0), some ((.l 12), true)⟩,
  ⟨.l, .pcall 20 [(.l 15)], some ((.l 12), true)⟩,
  ⟨.l, .bin .eql (.l 14) (.l 16), some ((.l 12), true)⟩,
  ⟨.l, .pick (.l 12) (.l 17) (.c (.bool false)), none⟩,
  ⟨.l, .mov (.l 18), none⟩,
  ⟨.l, .mov (.v 0), some ((.l 19), true)⟩,
  ⟨.l, .pcall 8 [(.l 20)], some ((.l 19), true)⟩,
  ⟨.l, .mov (.v 0), some ((.l 19), true)⟩,
  ⟨.l, .pcall 21 [(.l 22)], some ((.l 19), true)⟩,
  ⟨.l, .pcall 11 [(.l 21), (.l 23)], some ((.l 19), true)⟩,
  ⟨.l, .pick (.l 19) (.l 24) (.c (.bool false)), none⟩,
  ⟨.l, .mov (.l 25), none⟩,
  ⟨.l, .mov (.v 0), some ((.l 26), true)⟩,
  ⟨.l, .pcall 9 [(.l 27)], some ((.l 26), true)⟩,
  ⟨.l, .pcall 16 [(.l 28)], some ((.l 26), true)⟩,
  ⟨.l, .pick (.l 26) (.l 29) (.c (.bool false)), none⟩,
  ⟨.l, .mov (.l 30), none⟩,
  ⟨.l, .pcall 10 [], some ((.l 31), true)⟩,
  ⟨.l, .pick (.l 31) (.l 32) (.c (.bool false)), none⟩,
  ⟨.v 1, .take (.l 33), none⟩])
.ret)),
[.var 1]⟩

/-- 3 -/
def f_law01_WordTwos : PFunc := ⟨2, 3,
(.seq (.region [⟨.v 2, .take (.c (.bool false)), none⟩])
(.seq (.region [⟨.l, .mov (.v 0), none⟩,
  ⟨.l, .mov (.v 1), none⟩,
  ⟨.l, .pcall 14 [(.l 0), (.l 1)], none⟩,
  ⟨.l, .mov (.v 0), none⟩,
  ⟨.l, .mov (.v 1), none⟩,
  ⟨.l, .pcall 22 [(.l 3), (.l 4)], none⟩,
  ⟨.l, .bin .eql (.l 2) (.l 5), none⟩,
  ⟨.l, .mov (.l 6), none⟩,
  ⟨.l, .mov (.v 0), some ((.l 7), true)⟩,
  ⟨.l, .mov (.v 1), some ((.l 7), true)⟩,
  ⟨.l, .pcall 23 [(.l 8), (.l 9)], some ((.l 7), true)⟩,
  ⟨.l, .mov (.v 0), some ((.l 7), true)⟩,
  ⟨.l, .mov (.v 1), some ((.l 7), true)⟩,
  ⟨.l, .pcall 24 [(.l 11), (.l 12)], some ((.l 7), true)⟩,
  ⟨.l, .bin .eql (.l 10) (.l 13), some ((.l 7), true)⟩,
  ⟨.l, .pick (.l 7) (.l 14) (.c (.bool false)), none⟩,
  ⟨.l, .mov (.l 15), none⟩,
  ⟨.l, .mov (.v 0), some ((.l 16), true)⟩,
  ⟨.l, .mov (.v 1), some ((.l 16), true)⟩,
  ⟨.l, .pcall 15 [(.l 17), (.l 18)], some ((.l 16), true)⟩,
  ⟨.l, .mov (.v 0), some ((.l 16), true)⟩,
  ⟨.l, .mov (.v 1), some ((.l 16), true)⟩,
  ⟨.l, .pcall 25 [(.l 20), (.l 21)], some ((.l 16), true)⟩,
  ⟨.l, .bin .eql (.l 19) (.l 22), some ((.l 16), true)⟩,
  ⟨.l, .pick (.l 16) (.l 23) (.c (.bool false)), none⟩,
  ⟨.l, .mov (.l 24), none⟩,
  ⟨.l, .mov (.v 0), some ((.l 25), true)⟩,
  ⟨.l, .mov (.v 1), some ((.l 25), true)⟩,
  ⟨.l, .pcall 12 [(.l 26), (.l 27)], some ((.l 25), true)⟩,
  ⟨.l, .mov (.v 0), some ((.l 25), true)⟩,
  ⟨.l, .mov (.v 1), some ((.l 25), true)⟩,
  ⟨.l, .pcall 26 [(.l 29), (.l 30)], some ((.l 25), true)⟩,
  ⟨.l, .bin .eql (.l 28) (.l 31), some ((.l 25), true)⟩,
  ⟨.l, .pick (.l 25) (.l 32) (.c (.bool false)), none⟩,
  ⟨.l, .mov (.l 33), none⟩,
  ⟨.l, .mov (.v 0), some ((.l 34), true)⟩,
  ⟨.l, .mov (.v 1), some ((.l 34), true)⟩,
  ⟨.l, .pcall 13 [(.l 35), (.l 36)], some ((.l 34), true)⟩,
  ⟨.l, .mov (.v 0), some ((.l 34), true)⟩,
  ⟨.l, .mov (.v 1), some ((.l 34), true)⟩,
  ⟨.l, .pcall 27 [(.l 38), (.l 39)], some ((.l 34), true)⟩,
  ⟨.l, .bin .eql (.l 37) (.l 40), some ((.l 34), true)⟩,
  ⟨.l, .pick (.l 34) (.l 41) (.c (.bool false)), none⟩,
  ⟨.l, .mov (.l 42), none⟩,
  ⟨.l, .pcall 10 [], some ((.l 43), true)⟩,
  ⟨.l, .pick (.l 43) (.l 44) (.c (.bool false)), none⟩,
  ⟨.v 2, .take (.l 45), none⟩])
.ret)),
[.var 2]⟩

def f_law01_WordTurns_l0 : PC := (.loop (.seq (.branch [⟨.l, .mov (.v 4), none⟩,
  ⟨.l, .mov (.v 2), none⟩,
  ⟨.l, .len false (.l 1), none⟩,
  ⟨.l, .bin .lss (.l 0) (.l 2), none⟩] (.l 3)
.skip
(.exit 0))
(.seq (.block 1 (.region [⟨.l, .take (.v 3), none⟩,
  ⟨.l, .mov (.v 2), none⟩,
  ⟨.l, .mov (.v 4), none⟩,
  ⟨.l, .iaddrS 1 (.l 1) (.l 2), none⟩,
  ⟨.l, .load 1 false (.l 3) false, none⟩,
  ⟨.l, .un .not (.l 4), none⟩,
  ⟨.l, .mkslice 1 (.bool false) 1 [(0, (.l 5))], none⟩,
  ⟨.l, .append 1 1 (.l 0) (.l 6), none⟩,
  ⟨.v 3, .take (.l 7), none⟩]))
(.region [⟨.l, .mov (.v 4), none⟩,
  ⟨.l, .bin .add (.l 0) (.c (.int .i64 1)), none⟩,
  ⟨.v 4, .take (.l 1), none⟩]))))

/-- 4 -/
def f_law01_WordTurns : PFunc := ⟨1, 5,
(.seq (.region [⟨.v 1, .take (.c (.bool false)), none⟩])
(.seq (.region [⟨.l, .mov (.v 0), none⟩,
  ⟨.l, .pcall 8 [(.l 0)], none⟩,
  ⟨.v 2, .take (.l 1), none⟩])
(.seq (.region [⟨.v 3, .take (.c (.list true [])), none⟩])
(.seq (.seq (.region [⟨.v 4, .take (.c (.int .i64 0)), none⟩])
(.block 0 f_law01_WordTurns_l0))
(.seq (.region [⟨.l, .mov (.v 2), none⟩,
  ⟨.l, .len false (.l 0), none⟩,
  ⟨.l, .bin .eql (.l 1) (.c (.int .i64 16)), none⟩,
  ⟨.l, .mov (.l 2), none⟩,
  ⟨.l, .mov (.v 0), some ((.l 3), true)⟩,
  ⟨.l, .pcall 19 [(.l 4)], some ((.l 3), true)⟩,
  ⟨.l, .pcall 8 [(.l 5)], some ((.l 3), true)⟩,
  ⟨.l, .mov (.v 3), some ((.l 3), true)⟩,
  ⟨.l, .pcall 6 [(.l 7)], some ((.l 3), true)⟩,
  ⟨.l, .pcall 14 [(.l 8), (.c (.int .i64 1))], some ((.l 3), true)⟩,
  ⟨.l, .pcall 8 [(.l 9)], some ((.l 3), true)⟩,
  ⟨.l, .pcall 11 [(.l 6), (.l 10)], some ((.l 3), true)⟩,
  ⟨.l, .pick (.l 3) (.l 11) (.c (.bool false)), none⟩,
  ⟨.l, .mov (.l 12), none⟩,
  ⟨.l, .mov (.v 2), some ((.l 13), true)⟩,
  ⟨.l, .iaddrS 1 (.l 14) (.c (.int .i64 15)), some ((.l 13), true)⟩,
  ⟨.l, .load 1 false (.l 15) false, some ((.l 13), true)⟩,
  ⟨.l, .mov (.v 0), some ((.l 13), true)⟩,
  ⟨.l, .pcall 9 [(.l 17)], some ((.l 13), true)⟩,
  ⟨.l, .bin .lss (.l 18) (.c (.int .i64 0)), some ((.l 13), true)⟩,
  ⟨.l, .eq false false [.b] (.l 16) (.l 19), some ((.l 13), true)⟩,
  ⟨.l, .pick (.l 13) (.l 20) (.c (.bool false)), none⟩,
  ⟨.l, .mov (.l 21), none⟩,
  ⟨.l, .pcall 16 [(.c (.int .i64 (-32768)))], some ((.l 22), true)⟩,
  ⟨.l, .pick (.l 22) (.l 23) (.c (.bool false)), none⟩,
  ⟨.l, .mov (.l 24), none⟩,
  ⟨.l, .pcall 10 [], some ((.l 25), true)⟩,
  ⟨.l, .pick (.l 25) (.l 26) (.c (.bool false)), none⟩,
  ⟨.v 1, .take (.l 27), none⟩])
.ret))))),
[.var 1]⟩

/-- 5 -/
def f_law01_WordCongruent : PFunc := ⟨2, 9,
(.seq (.region [⟨.v 2, .take (.c (.bool false)), none⟩])
(.seq (.region [⟨.l, .mov (.v 0), none⟩,
  ⟨.l, .convInt .u64 (.l 0), none⟩,
  ⟨.l, .mov (.v 1), none⟩,
  ⟨.l, .convInt .u64 (.l 2), none⟩,
  ⟨.v 3, .take (.l 1), none⟩,
  ⟨.v 4, .take (.l 3), none⟩])
(.seq (.region [⟨.l, .mov (.v 0), none⟩,
  ⟨.l, .mov (.v 1), none⟩,
  ⟨.l, .pcall 14 [(.l 0), (.l 1)], none⟩,
  ⟨.l, .mov (.v 0), none⟩,
  ⟨.l, .mov (.v 1), none⟩,
  ⟨.l, .pcall 23 [(.l 3), (.l 4)], none⟩,
  ⟨.l, .mov (.v 0), none⟩,
  ⟨.l, .mov (.v 1), none⟩,
  ⟨.l, .pcall 15 [(.l 6), (.l 7)], none⟩,
  ⟨.l, .mov (.v 0), none⟩,
  ⟨.l, .pcall 19 [(.l 9)], none⟩,
  ⟨.v 5, .take (.l 2), none⟩,
  ⟨.v 6, .take (.l 5), none⟩,
  ⟨.v 7, .take (.l 8), none⟩,
  ⟨.v 8, .take (.l 10), none⟩])
(.seq (.branch [⟨.l, .mov (.v 5), none⟩,
  ⟨.l, .pcall 16 [(.l 0)], none⟩,
  ⟨.l, .un .not (.l 1), none⟩,
  ⟨.l, .mov (.l 2), none⟩,
  ⟨.l, .mov (.v 6), some ((.l 3), false)⟩,
  ⟨.l, .pcall 16 [(.l 4)], some ((.l 3), false)⟩,
  ⟨.l, .un .not (.l 5), some ((.l 3), false)⟩,
  ⟨.l, .pick (.l 3) (.c (.bool true)) (.l 6), none⟩,
  ⟨.l, .mov (.l 7), none⟩,
  ⟨.l, .mov (.v 7), some ((.l 8), false)⟩,
  ⟨.l, .pcall 16 [(.l 9)], some ((.l 8), false)⟩,
  ⟨.l, .un .not (.l 10), some ((.l 8), false)⟩,
  ⟨.l, .pick (.l 8) (.c (.bool true)) (.l 11), none⟩,
  ⟨.l, .mov (.l 12), none⟩,
  ⟨.l, .mov (.v 8), some ((.l 13), false)⟩,
  ⟨.l, .pcall 16 [(.l 14)], some ((.l 13), false)⟩,
  ⟨.l, .un .not (.l 15), some ((.l 13), false)⟩,
  ⟨.l, .pick (.l 13) (.c (.bool true)) (.l 16), none⟩,
  ⟨.l, .mov (.l 17), none⟩,
  ⟨.l, .mov (.v 0), some ((.l 18), false)⟩,
  ⟨.l, .mov (.v 1), some ((.l 18), false)⟩,
  ⟨.l, .pcall 12 [(.l 19), (.l 20)], some ((.l 18), false)⟩,
  ⟨.l, .pcall 16 [(.l 21)], some ((.l 18), false)⟩,
  ⟨.l, .un .not (.l 22), some ((.l 18), false)⟩,
  ⟨.l, .pick (.l 18) (.c (.bool true)) (.l 23), none⟩,
  ⟨.l, .mov (.l 24), none⟩,
  ⟨.l, .mov (.v 0), some ((.l 25), false)⟩,
  ⟨.l, .mov (.v 1), some ((.l 25), false)⟩,
  ⟨.l, .pcall 13 [(.l 26), (.l 27)], some ((.l 25), false)⟩,
  ⟨.l, .pcall 16 [(.l 28)], some ((.l 25), false)⟩,
  ⟨.l, .un .not (.l 29), some ((.l 25), false)⟩,
  ⟨.l, .pick (.l 25) (.c (.bool true)) (.l 30), none⟩] (.l 31)
(.seq (.region [⟨.v 2, .take (.c (.bool false)), none⟩])
.ret)
.skip)
(.seq (.region [⟨.l, .mov (.v 5), none⟩,
  ⟨.l, .convInt .u64 (.l 0), none⟩,
  ⟨.l, .mov (.v 3), none⟩,
  ⟨.l, .bin .sub (.l 1) (.l 2), none⟩,
  ⟨.l, .mov (.v 4), none⟩,
  ⟨.l, .bin .sub (.l 3) (.l 4), none⟩,
  ⟨.l, .bin .rem (.l 5) (.c (.int .u64 65536)), none⟩,
  ⟨.l, .bin .eql (.l 6) (.c (.int .u64 0)), none⟩,
  ⟨.l, .mov (.l 7), none⟩,
  ⟨.l, .mov (.v 6), some ((.l 8), true)⟩,
  ⟨.l, .convInt .u64 (.l 9), some ((.l 8), true)⟩,
  ⟨.l, .mov (.v 3), some ((.l 8), true)⟩,
  ⟨.l, .bin .sub (.l 10) (.l 11), some ((.l 8), true)⟩,
  ⟨.l, .mov (.v 4), some ((.l 8), true)⟩,
  ⟨.l, .bin .add (.l 12) (.l 13), some ((.l 8), true)⟩,
  ⟨.l, .bin .rem (.l 14) (.c (.int .u64 65536)), some ((.l 8), true)⟩,
  ⟨.l, .bin .eql (.l 15) (.c (.int .u64 0)), some ((.l 8), true)⟩,
  ⟨.l, .pick (.l 8) (.l 16) (.c (.bool false)), none⟩,
  ⟨.l, .mov (.l 17), none⟩,
  ⟨.l, .mov (.v 7), some ((.l 18), true)⟩,
  ⟨.l, .convInt .u64 (.l 19), some ((.l 18), true)⟩,
  ⟨.l, .mov (.v 3), some ((.l 18), true)⟩,
  ⟨.l, .mov (.v 4), some ((.l 18), true)⟩,
  ⟨.l, .bin .mul (.l 21) (.l 22), some ((.l 18), true)⟩,
  ⟨.l, .bin .sub (.l 20) (.l 23), some ((.l 18), true)⟩,
  ⟨.l, .bin .rem (.l 24) (.c (.int .u64 65536)), some ((.l 18), true)⟩,
  ⟨.l, .bin .eql (.l 25) (.c (.int .u64 0)), some ((.l 18), true)⟩,
  ⟨.l, .pick (.l 18) (.l 26) (.c (.bool false)), none⟩,
  ⟨.l, .mov (.l 27), none⟩,
  ⟨.l, .mov (.v 8), some ((.l 28), true)⟩,
  ⟨.l, .convInt .u64 (.l 29), some ((.l 28), true)⟩,
  ⟨.l, .mov (.v 3), some ((.l 28), true)⟩,
  ⟨.l, .bin .add (.l 30) (.l 31), some ((.l 28), true)⟩,
  ⟨.l, .bin .rem (.l 32) (.c (.int .u64 65536)), some ((.l 28), true)⟩,
  ⟨.l, .bin .eql (.l 33) (.c (.int .u64 0)), some ((.l 28), true)⟩,
  ⟨.l, .pick (.l 28) (.l 34) (.c (.bool false)), none⟩,
  ⟨.l, .mov (.l 35), none⟩,
  ⟨.l, .mov (.v 0), some ((.l 36), true)⟩,
  ⟨.l, .pcall 9 [(.l 37)], some ((.l 36), true)⟩,
  ⟨.l, .convInt .u64 (.l 38), some ((.l 36), true)⟩,
  ⟨.l, .mov (.v 3), some ((.l 36), true)⟩,
  ⟨.l, .bin .sub (.l 39) (.l 40), some ((.l 36), true)⟩,
  ⟨.l, .bin .rem (.l 41) (.c (.int .u64 65536)), some ((.l 36), true)⟩,
  ⟨.l, .bin .eql (.l 42) (.c (.int .u64 0)), some ((.l 36), true)⟩,
  ⟨.l, .pick (.l 36) (.l 43) (.c (.bool false)), none⟩,
  ⟨.l, .mov (.l 44), none⟩,
  ⟨.l, .pcall 10 [], some ((.l 45), true)⟩,
  ⟨.l, .pick (.l 45) (.l 46) (.c (.bool false)), none⟩,
  ⟨.v 2, .take (.l 47), none⟩])
.ret))))),
[.var 2]⟩

def f_word_Of_l0 : PC := (.loop (.seq (.branch [⟨.l, .bin .lss (.v 5) (.v 4), none⟩] (.l 0)
.skip
(.exit 0))
(.seq (.block 1 (.seq (.region [⟨.l, .mov (.v 5), none⟩,
  ⟨.v 3, .take (.l 0), none⟩])
(.branch [⟨.l, .mov (.v 0), none⟩,
  ⟨.l, .mov (.v 3), none⟩,
  ⟨.l, .iaddrS 1 (.l 0) (.l 1), none⟩,
  ⟨.l, .load 1 false (.l 2) false, none⟩] (.l 3)
(.region [⟨.l, .mov (.v 2), none⟩,
  ⟨.l, .mov (.v 3), none⟩,
  ⟨.l, .bin .shl (.c (.int .u16 1)) (.l 1), none⟩,
  ⟨.l, .bin .or (.l 0) (.l 2), none⟩,
  ⟨.v 2, .take (.l 3), none⟩])
.skip)))
(.region [⟨.l, .bin .add (.v 5) (.c (.int .i64 1)), none⟩,
  ⟨.v 5, .mov (.l 0), none⟩]))))

/-- 6 -/
def f_word_Of : PFunc := ⟨1, 6,
(.seq (.region [⟨.v 1, .take (.c (.int .i64 0)), none⟩])
(.seq (.region [⟨.v 2, .take (.c (.int .u16 0)), none⟩])
(.seq (.seq (.region [⟨.l, .mov (.v 0), none⟩,
  ⟨.l, .len false (.l 0), none⟩,
  ⟨.v 4, .minmax false [(.l 1), (.c (.int .i64 16))], none⟩,
  ⟨.v 5, .mov (.c (.int .i64 0)), none⟩])
(.block 0 f_word_Of_l0))
(.seq (.region [⟨.l, .mov (.v 2), none⟩,
  ⟨.l, .convInt .i16 (.l 0), none⟩,
  ⟨.l, .convInt .i64 (.l 1), none⟩,
  ⟨.v 1, .take (.l 2), none⟩])
.ret)))),
[.var 1]⟩

def f_ref01_Of_l0 : PC := (.loop (.seq (.branch [⟨.l, .mov (.v 4), none⟩,
  ⟨.l, .mov (.v 0), none⟩,
  ⟨.l, .len false (.l 1), none⟩,
  ⟨.l, .bin .lss (.l 0) (.l 2), none⟩,
  ⟨.l, .mov (.l 3), none⟩,
  ⟨.l, .mov (.v 4), some ((.l 4), true)⟩,
  ⟨.l, .bin .lss (.l 5) (.c (.int .i64 16)), some ((.l 4), true)⟩,
  ⟨.l, .pick (.l 4) (.l 6) (.c (.bool false)), none⟩] (.l 7)
.skip
(.exit 0))
(.seq (.block 1 (.seq (.branch [⟨.l, .mov (.v 0), none⟩,
  ⟨.l, .mov (.v 4), none⟩,
  ⟨.l, .iaddrS 1 (.l 0) (.l 1), none⟩,
  ⟨.l, .load 1 false (.l 2) false, none⟩] (.l 3)
(.region [⟨.l, .mov (.v 2), none⟩,
  ⟨.l, .mov (.v 3), none⟩,
  ⟨.l, .bin .add (.l 0) (.l 1), none⟩,
  ⟨.v 2, .take (.l 2), none⟩])
.skip)
(.region [⟨.l, .mov (.v 3), none⟩,
  ⟨.l, .bin .mul (.c (.int .i64 2)) (.l 0), none⟩,
  ⟨.v 3, .take (.l 1), none⟩])))
(.region [⟨.l, .mov (.v 4), none⟩,
  ⟨.l, .bin .add (.l 0) (.c (.int .i64 1)), none⟩,
  ⟨.v 4, .take (.l 1), none⟩]))))

/-- 7 -/
def f_ref01_Of : PFunc := ⟨1, 5,
(.seq (.region [⟨.v 1, .take (.c (.int .i64 0)), none⟩])
(.seq (.region [⟨.v 2, .take (.c (.int .i64 0)), none⟩])
(.seq (.region [⟨.v 3, .take (.c (.int .i64 1)), none⟩])
(.seq (.seq (.region [⟨.v 4, .take (.c (.int .i64 0)), none⟩])
(.block 0 f_ref01_Of_l0))
(.seq (.region [⟨.l, .mov (.v 2), none⟩,
  ⟨.l, .pcall 18 [(.l 0)], none⟩,
  ⟨.v 1, .take (.l 1), none⟩])
.ret))))),
[.var 1]⟩

def f_word_Bits_l0 : PC := (.loop (.seq (.branch [⟨.l, .bin .lss (.v 5) (.c (.int .i64 16)), none⟩] (.l 0)
.skip
(.exit 0))
(.seq (.block 1 (.seq (.region [⟨.l, .mov (.v 5), none⟩,
  ⟨.v 4, .take (.l 0), none⟩])
(.region [⟨.l, .mov (.v 4), none⟩,
  ⟨.l, .mov (.v 3), none⟩,
  ⟨.l, .mov (.v 4), none⟩,
  ⟨.l, .bin .shr (.l 1) (.l 2), none⟩,
  ⟨.l, .bin .and (.l 3) (.c (.int .u16 1)), none⟩,
  ⟨.l, .bin .eql (.l 4) (.c (.int .u16 1)), none⟩,
  ⟨.l, .iaddrA 16 1 (.v 2) (.l 0), none⟩,
  ⟨.n, .store 1 false (.l 6) (.l 5), none⟩])))
(.region [⟨.l, .bin .add (.v 5) (.c (.int .i64 1)), none⟩,
  ⟨.v 5, .mov (.l 0), none⟩]))))

/-- 8 -/
def f_word_Bits : PFunc := ⟨1, 6,
(.seq (.region [⟨.v 1, .take (.c (.list true [])), none⟩])
(.seq (.region [⟨.v 2, .newloc [.bool false, .bool false, .bool false, .bool false, .bool false, .bool false, .bool false, .bool false, .bool false, .bool false, .bool false, .bool false, .bool false, .bool false, .bool false, .bool false], none⟩])
(.seq (.region [⟨.l, .mov (.v 0), none⟩,
  ⟨.l, .convInt .u16 (.l 0), none⟩,
  ⟨.v 3, .take (.l 1), none⟩])
(.seq (.seq (.region [⟨.v 5, .mov (.c (.int .i64 0)), none⟩])
(.block 0 f_word_Bits_l0))
(.seq (.region [⟨.l, .sliceLoc 16 (.v 2), none⟩,
  ⟨.v 1, .take (.l 0), none⟩])
.ret))))),
[.var 1]⟩

/-- 9 -/
def f_word_Wrap : PFunc := ⟨1, 2,
(.seq (.region [⟨.v 1, .take (.c (.int .i64 0)), none⟩])
(.seq (.region [⟨.l, .mov (.v 0), none⟩,
  ⟨.l, .convInt .i16 (.l 0), none⟩,
  ⟨.l, .convInt .i64 (.l 1), none⟩,
  ⟨.v 1, .take (.l 2), none⟩])
.ret)),
[.var 1]⟩

/-- 10 -/
def f_law01_awake : PFunc := ⟨0, 2,
(.seq (.region [⟨.v 0, .take (.c (.bool false)), none⟩])
(.seq (.region [⟨.l, .pcall 8 [(.c (.int .i64 5))], none⟩,
  ⟨.v 1, .take (.l 0), none⟩])
(.seq (.region [⟨.l, .pcall 16 [(.c (.int .i64 32767))], none⟩,
  ⟨.l, .mov (.l 0), none⟩,
  ⟨.l, .pcall 16 [(.c (.int .i64 32768))], some ((.l 1), true)⟩,
  ⟨.l, .un .not (.l 2), some ((.l 1), true)⟩,
  ⟨.l, .pick (.l 1) (.l 3) (.c (.bool false)), none⟩,
  ⟨.l, .mov (.l 4), none⟩,
  ⟨.l, .pcall 9 [(.c (.int .i64 40000))], some ((.l 5), true)⟩,
  ⟨.l, .bin .eql (.l 6) (.c (.int .i64 (-25536))), some ((.l 5), true)⟩,
  ⟨.l, .pick (.l 5) (.l 7) (.c (.bool false)), none⟩,
  ⟨.l, .mov (.l 8), none⟩,
  ⟨.l, .pcall 14 [(.c (.int .i64 32767)), (.c (.int .i64 1))], some ((.l 9), true)⟩,
  ⟨.l, .bin .eql (.l 10) (.c (.int .i64 (-32768))), some ((.l 9), true)⟩,
  ⟨.l, .pick (.l 9) (.l 11) (.c (.bool false)), none⟩,
  ⟨.l, .mov (.l 12), none⟩,
  ⟨.l, .pcall 15 [(.c (.int .i64 300)), (.c (.int .i64 300))], some ((.l 13), true)⟩,
  ⟨.l, .bin .eql (.l 14) (.c (.int .i64 24464)), some ((.l 13), true)⟩,
  ⟨.l, .pick (.l 13) (.l 15) (.c (.bool false)), none⟩,
  ⟨.l, .mov (.l 16), none⟩,
  ⟨.l, .pcall 12 [(.c (.int .i64 (-7))), (.c (.int .i64 2))], some ((.l 17), true)⟩,
  ⟨.l, .bin .eql (.l 18) (.c (.int .i64 (-3))), some ((.l 17), true)⟩,
  ⟨.l, .pick (.l 17) (.l 19) (.c (.bool false)), none⟩,
  ⟨.l, .mov (.l 20), none⟩,
  ⟨.l, .pcall 13 [(.c (.int .i64 (-7))), (.c (.int .i64 2))], some ((.l 21), true)⟩,
  ⟨.l, .bin .eql (.l 22) (.c (.int .i64 (-1))), some ((.l 21), true)⟩,
  ⟨.l, .pick (.l 21) (.l 23) (.c (.bool false)), none⟩,
  ⟨.l, .mov (.l 24), none⟩,
  ⟨.l, .pcall 13 [(.c (.int .i64 7)), (.c (.int .i64 0))], some ((.l 25), true)⟩,
  ⟨.l, .bin .eql (.l 26) (.c (.int .i64 7)), some ((.l 25), true)⟩,
  ⟨.l, .pick (.l 25) (.l 27) (.c (.bool false)), none⟩,
  ⟨.l, .mov (.l 28), none⟩,
  ⟨.l, .mov (.v 1), some ((.l 29), true)⟩,
  ⟨.l, .len false (.l 30), some ((.l 29), true)⟩,
  ⟨.l, .bin .eql (.l 31) (.c (.int .i64 16)), some ((.l 29), true)⟩,
  ⟨.l, .pick (.l 29) (.l 32) (.c (.bool false)), none⟩,
  ⟨.l, .mov (.l 33), none⟩,
  ⟨.l, .mov (.v 1), some ((.l 34), true)⟩,
  ⟨.l, .iaddrS 1 (.l 35) (.c (.int .i64 0)), some ((.l 34), true)⟩,
  ⟨.l, .load 1 false (.l 36) false, some ((.l 34), true)⟩,
  ⟨.l, .pick (.l 34) (.l 37) (.c (.bool false)), none⟩,
  ⟨.l, .mov (.l 38), none⟩,
  ⟨.l, .mov (.v 1), some ((.l 39), true)⟩,
  ⟨.l, .iaddrS 1 (.l 40) (.c (.int .i64 1)), some ((.l 39), true)⟩,
  ⟨.l, .load 1 false (.l 41) false, some ((.l 39), true)⟩,
  ⟨.l, .un .not (.l 42), some ((.l 39), true)⟩,
  ⟨.l, .pick (.l 39) (.l 43) (.c (.bool false)), none⟩,
  ⟨.l, .mov (.l 44), none⟩,
  ⟨.l, .mov (.v 1), some ((.l 45), true)⟩,
  ⟨.l, .iaddrS 1 (.l 46) (.c (.int .i64 2)), some ((.l 45), true)⟩,
  ⟨.l, .load 1 false (.l 47) false, some ((.l 45), true)⟩,
  ⟨.l, .pick (.l 45) (.l 48) (.c (.bool false)), none⟩,
  ⟨.l, .mov (.l 49), none⟩,
  ⟨.l, .mov (.v 1), some ((.l 50), true)⟩,
  ⟨.l, .pcall 6 [(.l 51)], some ((.l 50), true)⟩,
  ⟨.l, .bin .eql (.l 52) (.c (.int .i64 5)), some ((.l 50), true)⟩,
  ⟨.l, .pick (.l 50) (.l 53) (.c (.bool false)), none⟩,
  ⟨.v 0, .take (.l 54), none⟩])
.ret))),
[.var 0]⟩

def f_law01_same_l0 : PC := (.loop (.seq (.branch [⟨.l, .mov (.v 3), none⟩,
  ⟨.l, .mov (.v 0), none⟩,
  ⟨.l, .len false (.l 1), none⟩,
  ⟨.l, .bin .lss (.l 0) (.l 2), none⟩] (.l 3)
.skip
(.exit 0))
(.seq (.block 1 (.branch [⟨.l, .mov (.v 0), none⟩,
  ⟨.l, .mov (.v 3), none⟩,
  ⟨.l, .iaddrS 1 (.l 0) (.l 1), none⟩,
  ⟨.l, .load 1 false (.l 2) false, none⟩,
  ⟨.l, .mov (.v 1), none⟩,
  ⟨.l, .mov (.v 3), none⟩,
  ⟨.l, .iaddrS 1 (.l 4) (.l 5), none⟩,
  ⟨.l, .load 1 false (.l 6) false, none⟩,
  ⟨.l, .eq true false [.b] (.l 3) (.l 7), none⟩] (.l 8)
(.seq (.region [⟨.v 2, .take (.c (.bool false)), none⟩])
.ret)
.skip))
(.region [⟨.l, .mov (.v 3), none⟩,
  ⟨.l, .bin .add (.l 0) (.c (.int .i64 1)), none⟩,
  ⟨.v 3, .take (.l 1), none⟩]))))

/-- 11 -/
def f_law01_same : PFunc := ⟨2, 4,
(.seq (.region [⟨.v 2, .take (.c (.bool false)), none⟩])
(.seq (.branch [⟨.l, .mov (.v 0), none⟩,
  ⟨.l, .len false (.l 0), none⟩,
  ⟨.l, .mov (.v 1), none⟩,
  ⟨.l, .len false (.l 2), none⟩,
  ⟨.l, .bin .neq (.l 1) (.l 3), none⟩] (.l 4)
(.seq (.region [⟨.v 2, .take (.c (.bool false)), none⟩])
.ret)
.skip)
(.seq (.seq (.region [⟨.v 3, .take (.c (.int .i64 0)), none⟩])
(.block 0 f_law01_same_l0))
(.seq (.region [⟨.v 2, .take (.c (.bool true)), none⟩])
.ret)))),
[.var 2]⟩

/-- 12 -/
def f_word_Div : PFunc := ⟨2, 3,
(.seq (.region [⟨.v 2, .take (.c (.int .i64 0)), none⟩])
(.seq (.region [⟨.l, .mov (.v 0), none⟩,
  ⟨.l, .pcall 9 [(.l 0)], none⟩,
  ⟨.l, .mov (.v 1), none⟩,
  ⟨.l, .pcall 9 [(.l 2)], none⟩,
  ⟨.v 0, .take (.l 1), none⟩,
  ⟨.v 1, .take (.l 3), none⟩])
(.seq (.branch [⟨.l, .mov (.v 1), none⟩,
  ⟨.l, .bin .eql (.l 0) (.c (.int .i64 0)), none⟩] (.l 1)
(.seq (.region [⟨.v 2, .take (.c (.int .i64 0)), none⟩])
.ret)
.skip)
(.seq (.region [⟨.l, .mov (.v 0), none⟩,
  ⟨.l, .mov (.v 1), none⟩,
  ⟨.l, .bin .quo (.l 0) (.l 1), none⟩,
  ⟨.l, .pcall 9 [(.l 2)], none⟩,
  ⟨.v 2, .take (.l 3), none⟩])
.ret)))),
[.var 2]⟩

/-- 13 -/
def f_word_Mod : PFunc := ⟨2, 3,
(.seq (.region [⟨.v 2, .take (.c (.int .i64 0)), none⟩])
(.seq (.region [⟨.l, .mov (.v 0), none⟩,
  ⟨.l, .pcall 9 [(.l 0)], none⟩,
  ⟨.l, .mov (.v 1), none⟩,
  ⟨.l, .pcall 9 [(.l 2)], none⟩,
  ⟨.v 0, .take (.l 1), none⟩,
  ⟨.v 1, .take (.l 3), none⟩])
(.seq (.branch [⟨.l, .mov (.v 1), none⟩,
  ⟨.l, .bin .eql (.l 0) (.c (.int .i64 0)), none⟩] (.l 1)
(.seq (.region [⟨.l, .mov (.v 0), none⟩,
  ⟨.v 2, .take (.l 0), none⟩])
.ret)
.skip)
(.seq (.region [⟨.l, .mov (.v 0), none⟩,
  ⟨.l, .mov (.v 1), none⟩,
  ⟨.l, .bin .rem (.l 0) (.l 1), none⟩,
  ⟨.v 2, .take (.l 2), none⟩])
.ret)))),
[.var 2]⟩

/-- 14 -/
def f_word_Add : PFunc := ⟨2, 3,
(.seq (.region [⟨.v 2, .take (.c (.int .i64 0)), none⟩])
(.seq (.region [⟨.l, .mov (.v 0), none⟩,
  ⟨.l, .pcall 9 [(.l 0)], none⟩,
  ⟨.l, .mov (.v 1), none⟩,
  ⟨.l, .pcall 9 [(.l 2)], none⟩,
  ⟨.l, .bin .add (.l 1) (.l 3), none⟩,
  ⟨.l, .pcall 9 [(.l 4)], none⟩,
  ⟨.v 2, .take (.l 5), none⟩])
.ret)),
[.var 2]⟩

/-- 15 -/
def f_word_Mul : PFunc := ⟨2, 3,
(.seq (.region [⟨.v 2, .take (.c (.int .i64 0)), none⟩])
(.seq (.region [⟨.l, .mov (.v 0), none⟩,
  ⟨.l, .pcall 9 [(.l 0)], none⟩,
  ⟨.l, .mov (.v 1), none⟩,
  ⟨.l, .pcall 9 [(.l 2)], none⟩,
  ⟨.l, .bin .mul (.l 1) (.l 3), none⟩,
  ⟨.l, .pcall 9 [(.l 4)], none⟩,
  ⟨.v 2, .take (.l 5), none⟩])
.ret)),
[.var 2]⟩

/-- 16 -/
def f_word_In : PFunc := ⟨1, 2,
(.seq (.region [⟨.v 1, .take (.c (.bool false)), none⟩])
(.seq (.region [⟨.l, .mov (.v 0), none⟩,
  ⟨.l, .bin .leq (.c (.int .i64 (-32768))) (.l 0), none⟩,
  ⟨.l, .mov (.l 1), none⟩,
  ⟨.l, .mov (.v 0), some ((.l 2), true)⟩,
  ⟨.l, .bin .leq (.l 3) (.c (.int .i64 32767)), some ((.l 2), true)⟩,
  ⟨.l, .pick (.l 2) (.l 4) (.c (.bool false)), none⟩,
  ⟨.v 1, .take (.l 5), none⟩])
.ret)),
[.var 1]⟩

/-- 17 -/
def f_ref01_In : PFunc := ⟨1, 2,
(.seq (.region [⟨.v 1, .take (.c (.bool false)), none⟩])
(.seq (.region [⟨.l, .mov (.v 0), none⟩,
  ⟨.l, .bin .geq (.l 0) (.c (.int .i64 (-32768))), none⟩,
  ⟨.l, .mov (.l 1), none⟩,
  ⟨.l, .mov (.v 0), some ((.l 2), true)⟩,
  ⟨.l, .bin .leq (.l 3) (.c (.int .i64 32767)), some ((.l 2), true)⟩,
  ⟨.l, .pick (.l 2) (.l 4) (.c (.bool false)), none⟩,
  ⟨.v 1, .take (.l 5), none⟩])
.ret)),
[.var 1]⟩

/-- 18 -/
def f_ref01_Wrap : PFunc := ⟨1, 3,
(.seq (.region [⟨.v 1, .take (.c (.int .i64 0)), none⟩])
(.seq (.region [⟨.l, .mov (.v 0), none⟩,
  ⟨.l, .bin .rem (.l 0) (.c (.int .i64 65536)), none⟩,
  ⟨.v 2, .take (.l 1), none⟩])
(.seq (.branch [⟨.l, .mov (.v 2), none⟩,
  ⟨.l, .bin .gtr (.l 0) (.c (.int .i64 32767)), none⟩] (.l 1)
(.seq (.region [⟨.l, .mov (.v 2), none⟩,
  ⟨.l, .bin .sub (.l 0) (.c (.int .i64 65536)), none⟩,
  ⟨.v 1, .take (.l 1), none⟩])
.ret)
.skip)
(.seq (.branch [⟨.l, .mov (.v 2), none⟩,
  ⟨.l, .bin .lss (.l 0) (.c (.int .i64 (-32768))), none⟩] (.l 1)
(.seq (.region [⟨.l, .mov (.v 2), none⟩,
  ⟨.l, .bin .add (.l 0) (.c (.int .i64 65536)), none⟩,
  ⟨.v 1, .take (.l 1), none⟩])
.ret)
.skip)
(.seq (.region [⟨.l, .mov (.v 2), none⟩,
  ⟨.v 1, .take (.l 0), none⟩])
.ret))))),
[.var 1]⟩

/-- 19 -/
def f_word_Neg : PFunc := ⟨1, 2,
(.seq (.region [⟨.v 1, .take (.c (.int .i64 0)), none⟩])
(.seq (.region [⟨.l, .mov (.v 0), none⟩,
  ⟨.l, .pcall 9 [(.l 0)], none⟩,
  ⟨.l, .un .neg (.l 1), none⟩,
  ⟨.l, .pcall 9 [(.l 2)], none⟩,
  ⟨.v 1, .take (.l 3), none⟩])
.ret)),
[.var 1]⟩

/-- 20 -/
def f_ref01_Neg : PFunc := ⟨1, 2,
(.seq (.region [⟨.v 1, .take (.c (.int .i64 0)), none⟩])
(.seq (.region [⟨.l, .mov (.v 0), none⟩,
  ⟨.l, .pcall 18 [(.l 0)], none⟩,
  ⟨.l, .un .neg (.l 1), none⟩,
  ⟨.l, .pcall 18 [(.l 2)], none⟩,
  ⟨.v 1, .take (.l 3), none⟩])
.ret)),
[.var 1]⟩

def f_ref01_Bits_l0 : PC := (.loop (.seq (.branch [⟨.l, .mov (.v 4), none⟩,
  ⟨.l, .bin .lss (.l 0) (.c (.int .i64 16)), none⟩] (.l 1)
.skip
(.exit 0))
(.seq (.block 1 (.seq (.region [⟨.l, .take (.v 3), none⟩,
  ⟨.l, .mov (.v 2), none⟩,
  ⟨.l, .bin .rem (.l 1) (.c (.int .i64 2)), none⟩,
  ⟨.l, .bin .eql (.l 2) (.c (.int .i64 1)), none⟩,
  ⟨.l, .mkslice 1 (.bool false) 1 [(0, (.l 3))], none⟩,
  ⟨.l, .append 1 1 (.l 0) (.l 4), none⟩,
  ⟨.v 3, .take (.l 5), none⟩])
(.region [⟨.l, .mov (.v 2), none⟩,
  ⟨.l, .bin .quo (.l 0) (.c (.int .i64 2)), none⟩,
  ⟨.v 2, .take (.l 1), none⟩])))
(.region [⟨.l, .mov (.v 4), none⟩,
  ⟨.l, .bin .add (.l 0) (.c (.int .i64 1)), none⟩,
  ⟨.v 4, .take (.l 1), none⟩]))))

/-- 21 -/
def f_ref01_Bits : PFunc := ⟨1, 5,
(.seq (.region [⟨.v 1, .take (.c (.list true [])), none⟩])
(.seq (.region [⟨.l, .mov (.v 0), none⟩,
  ⟨.l, .pcall 18 [(.l 0)], none⟩,
  ⟨.v 2, .take (.l 1), none⟩])
(.seq (.branch [⟨.l, .mov (.v 2), none⟩,
  ⟨.l, .bin .lss (.l 0) (.c (.int .i64 0)), none⟩] (.l 1)
(.region [⟨.l, .mov (.v 2), none⟩,
  ⟨.l, .bin .add (.l 0) (.c (.int .i64 65536)), none⟩,
  ⟨.v 2, .take (.l 1), none⟩])
.skip)
(.seq (.region [⟨.v 3, .take (.c (.list true [])), none⟩])
(.seq (.seq (.region [⟨.v 4, .take (.c (.int .i64 0)), none⟩])
(.block 0 f_ref01_Bits_l0))
(.seq (.region [⟨.l, .mov (.v 3), none⟩,
  ⟨.v 1, .take (.l 0), none⟩])
.ret)))))),
[.var 1]⟩

/-- 22 -/
def f_ref01_Add : PFunc := ⟨2, 3,
(.seq (.region [⟨.v 2, .take (.c (.int .i64 0)), none⟩])
(.seq (.region [⟨.l, .mov (.v 0), none⟩,
  ⟨.l, .pcall 18 [(.l 0)], none⟩,
  ⟨.l, .mov (.v 1), none⟩,
  ⟨.l, .pcall 18 [(.l 2)], none⟩,
  ⟨.l, .bin .add (.l 1) (.l 3), none⟩,
  ⟨.l, .pcall 18 [(.l 4)], none⟩,
  ⟨.v 2, .take (.l 5), none⟩])
.ret)),
[.var 2]⟩

/-- 23 -/
def f_word_Sub : PFunc := ⟨2, 3,
(.seq (.region [⟨.v 2, .take (.c (.int .i64 0)), none⟩])
(.seq (.region [⟨.l, .mov (.v 0), none⟩,
  ⟨.l, .pcall 9 [(.l 0)], none⟩,
  ⟨.l, .mov (.v 1), none⟩,
  ⟨.l, .pcall 9 [(.l 2)], none⟩,
  ⟨.l, .bin .sub (.l 1) (.l 3), none⟩,
  ⟨.l, .pcall 9 [(.l 4)], none⟩,
  ⟨.v 2, .take (.l 5), none⟩])
.ret)),
[.var 2]⟩

/-- 24 -/
def f_ref01_Sub : PFunc := ⟨2, 3,
(.seq (.region [⟨.v 2, .take (.c (.int .i64 0)), none⟩])
(.seq (.region [⟨.l, .mov (.v 0), none⟩,
  ⟨.l, .pcall 18 [(.l 0)], none⟩,
  ⟨.l, .mov (.v 1), none⟩,
  ⟨.l, .pcall 18 [(.l 2)], none⟩,
  ⟨.l, .bin .sub (.l 1) (.l 3), none⟩,
  ⟨.l, .pcall 18 [(.l 4)], none⟩,
  ⟨.v 2, .take (.l 5), none⟩])
.ret)),
[.var 2]⟩

/-- 25 -/
def f_ref01_Mul : PFunc := ⟨2, 3,
(.seq (.region [⟨.v 2, .take (.c (.int .i64 0)), none⟩])
(.seq (.region [⟨.l, .mov (.v 0), none⟩,
  ⟨.l, .pcall 18 [(.l 0)], none⟩,
  ⟨.l, .mov (.v 1), none⟩,
  ⟨.l, .pcall 18 [(.l 2)], none⟩,
  ⟨.l, .bin .mul (.l 1) (.l 3), none⟩,
  ⟨.l, .pcall 18 [(.l 4)], none⟩,
  ⟨.v 2, .take (.l 5), none⟩])
.ret)),
[.var 2]⟩

/-- 26 -/
def f_ref01_Div : PFunc := ⟨2, 3,
(.seq (.region [⟨.v 2, .take (.c (.int .i64 0)), none⟩])
(.seq (.branch [⟨.l, .mov (.v 1), none⟩,
  ⟨.l, .pcall 18 [(.l 0)], none⟩,
  ⟨.l, .bin .eql (.l 1) (.c (.int .i64 0)), none⟩] (.l 2)
(.seq (.region [⟨.v 2, .take (.c (.int .i64 0)), none⟩])
.ret)
.skip)
(.seq (.region [⟨.l, .mov (.v 0), none⟩,
  ⟨.l, .pcall 18 [(.l 0)], none⟩,
  ⟨.l, .mov (.v 1), none⟩,
  ⟨.l, .pcall 18 [(.l 2)], none⟩,
  ⟨.l, .bin .quo (.l 1) (.l 3), none⟩,
  ⟨.l, .pcall 18 [(.l 4)], none⟩,
  ⟨.v 2, .take (.l 5), none⟩])
.ret))),
[.var 2]⟩

/-- 27 -/
def f_ref01_Mod : PFunc := ⟨2, 3,
(.seq (.region [⟨.v 2, .take (.c (.int .i64 0)), none⟩])
(.seq (.branch [⟨.l, .mov (.v 1), none⟩,
  ⟨.l, .pcall 18 [(.l 0)], none⟩,
  ⟨.l, .bin .eql (.l 1) (.c (.int .i64 0)), none⟩] (.l 2)
(.seq (.region [⟨.l, .mov (.v 0), none⟩,
  ⟨.l, .pcall 18 [(.l 0)], none⟩,
  ⟨.v 2, .take (.l 1), none⟩])
.ret)
.skip)
(.seq (.region [⟨.l, .mov (.v 0), none⟩,
  ⟨.l, .pcall 18 [(.l 0)], none⟩,
  ⟨.l, .mov (.v 1), none⟩,
  ⟨.l, .pcall 18 [(.l 2)], none⟩,
  ⟨.l, .bin .rem (.l 1) (.l 3), none⟩,
  ⟨.v 2, .take (.l 4), none⟩])
.ret))),
[.var 2]⟩

def L : Nat → Option PFunc
  | 0 => some f_law01_WordBits
  | 1 => some f_law01_WordDivides
  | 2 => some f_law01_WordOnes
  | 3 => some f_law01_WordTwos
  | 4 => some f_law01_WordTurns
  | 5 => some f_law01_WordCongruent
  | 6 => some f_word_Of
  | 7 => some f_ref01_Of
  | 8 => some f_word_Bits
  | 9 => some f_word_Wrap
  | 10 => some f_law01_awake
  | 11 => some f_law01_same
  | 12 => some f_word_Div
  | 13 => some f_word_Mod
  | 14 => some f_word_Add
  | 15 => some f_word_Mul
  | 16 => some f_word_In
  | 17 => some f_ref01_In
  | 18 => some f_ref01_Wrap
  | 19 => some f_word_Neg
  | 20 => some f_ref01_Neg
  | 21 => some f_ref01_Bits
  | 22 => some f_ref01_Add
  | 23 => some f_word_Sub
  | 24 => some f_ref01_Sub
  | 25 => some f_ref01_Mul
  | 26 => some f_ref01_Div
  | 27 => some f_ref01_Mod
  | _ => none
end PI.Word
