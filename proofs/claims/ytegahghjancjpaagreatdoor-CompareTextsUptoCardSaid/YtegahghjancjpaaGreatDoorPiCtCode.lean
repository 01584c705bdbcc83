import Derived.Test.YtegahghjancjpaaGreatDoorPiPrim
import Derived.Test.YtegahghjancjpaaGreatDoorPiTrCode
import Derived.Test.YtegahghjancjpaaGreatDoorPiRec
namespace PI.Ct
open Go (IntKind BinOp UnOp)
def f_law44_huge_l0 : PC := (.loop (.seq (.branch [⟨.l, .mov (.v 4), none⟩,⟨.l, .faddr 1 (.v 1), none⟩,⟨.l, .load 1 false (.l 1) false, none⟩,⟨.l, .len false (.l 2), none⟩,⟨.l, .bin .lss (.l 0) (.l 3), none⟩,⟨.l, .mov (.l 4), none⟩,⟨.l, .mov (.v 3), some ((.l 5), true)⟩,⟨.l, .bin .lss (.l 6) (.c (.int .i64 2000)), some ((.l 5), true)⟩,⟨.l, .pick (.l 5) (.l 7) (.c (.bool false)), none⟩] (.l 8)
.skip
(.exit 0))
(.seq (.block 1 (.region [⟨.l, .mov (.v 3), none⟩,⟨.l, .faddr 1 (.v 1), none⟩,⟨.l, .load 1 false (.l 1) false, none⟩,⟨.l, .mov (.v 4), none⟩,⟨.l, .iaddrS 1 (.l 2) (.l 3), none⟩,⟨.l, .h (.loadc 1 false (.l 4)), none⟩,⟨.l, .len false (.l 5), none⟩,⟨.l, .bin .add (.l 0) (.l 6), none⟩,⟨.v 3, .take (.l 7), none⟩]))
(.region [⟨.l, .mov (.v 4), none⟩,⟨.l, .bin .add (.l 0) (.c (.int .i64 1)), none⟩,⟨.v 4, .take (.l 1), none⟩]))))
def f_law44_huge : PFunc := ⟨1, 5,
(.seq (.region [⟨.v 1, .boxloc 2 (.v 0), none⟩,⟨.v 2, .take (.c (.bool false)), none⟩])
(.seq (.region [⟨.l, .faddr 0 (.v 1), none⟩,⟨.l, .load 1 false (.l 0) false, none⟩,⟨.l, .build [.str [], .list true [], .list true [], .list true [], .list true [], .list true [], .list true [], .list true []] [(3, 1, (.l 1))], none⟩,⟨.l, .mkslice 8 (.agg [.str [], .list true [], .list true [], .list true [], .list true [], .list true [], .list true [], .list true []]) 1 [(0, (.l 2))], none⟩,⟨.l, .build [.list true [], .list true []] [(1, 1, (.l 3))], none⟩,⟨.l, .pcall 220 [(.l 4), (.c (.int .i64 600))], none⟩,⟨.l, .faddr 1 (.v 1), none⟩,⟨.l, .load 1 false (.l 6) false, none⟩,⟨.l, .len false (.l 7), none⟩,⟨.l, .bin .add (.l 5) (.l 8), none⟩,⟨.v 3, .take (.l 9), none⟩])
(.seq (.seq (.region [⟨.v 4, .take (.c (.int .i64 0)), none⟩])
(.block 0 f_law44_huge_l0))
(.seq (.region [⟨.l, .mov (.v 3), none⟩,⟨.l, .bin .geq (.l 0) (.c (.int .i64 2000)), none⟩,⟨.l, .mov (.l 1), none⟩,⟨.l, .faddr 0 (.v 1), some ((.l 2), false)⟩,⟨.l, .load 1 false (.l 3) false, some ((.l 2), false)⟩,⟨.l, .len false (.l 4), some ((.l 2), false)⟩,⟨.l, .bin .gtr (.l 5) (.c (.int .i64 200)), some ((.l 2), false)⟩,⟨.l, .pick (.l 2) (.c (.bool true)) (.l 6), none⟩,⟨.v 2, .take (.l 7), none⟩])
.ret)))),
[.var 2], false, none, none⟩
def f_law44_awake : PFunc := ⟨0, 12,
(.seq (.region [⟨.v 0, .take (.c (.bool false)), none⟩])
(.seq (.region [⟨.l, .mkslice 1 (.int .i64 0) 2 [(0, (.c (.int .i64 1))), (1, (.c (.int .i64 2)))], none⟩,⟨.l, .pcall 221 [(.c (.str [120])), (.l 0)], none⟩,⟨.l, .mkslice 1 (.int .i64 0) 2 [(0, (.c (.int .i64 1))), (1, (.c (.int .i64 3)))], none⟩,⟨.l, .pcall 221 [(.c (.str [120])), (.l 2)], none⟩,⟨.l, .pcall 211 [(.l 1), (.l 3)], none⟩,⟨.l, .mov (.l 4), none⟩,⟨.l, .extract 0 (.l 5), none⟩,⟨.l, .extract 1 (.l 5), none⟩,⟨.l, .extract 2 (.l 5), none⟩,⟨.v 1, .take (.l 6), none⟩,⟨.v 2, .take (.l 7), none⟩,⟨.v 3, .take (.l 8), none⟩])
(.seq (.region [⟨.l, .mkslice 1 (.int .i64 0) 2 [(0, (.c (.int .i64 1))), (1, (.c (.int .i64 2)))], none⟩,⟨.l, .pcall 221 [(.c (.str [120])), (.l 0)], none⟩,⟨.l, .mkslice 1 (.int .i64 0) 1 [(0, (.c (.int .i64 1)))], none⟩,⟨.l, .pcall 221 [(.c (.str [120])), (.l 2)], none⟩,⟨.l, .pcall 211 [(.l 1), (.l 3)], none⟩,⟨.l, .mov (.l 4), none⟩,⟨.l, .extract 0 (.l 5), none⟩,⟨.l, .extract 1 (.l 5), none⟩,⟨.l, .extract 2 (.l 5), none⟩,⟨.v 4, .take (.l 6), none⟩,⟨.v 5, .take (.l 7), none⟩,⟨.v 6, .take (.l 8), none⟩])
(.seq (.region [⟨.l, .mkslice 1 (.int .i64 0) 1 [(0, (.c (.int .i64 1)))], none⟩,⟨.l, .pcall 221 [(.c (.str [120])), (.l 0)], none⟩,⟨.l, .mkslice 1 (.int .i64 0) 1 [(0, (.c (.int .i64 2)))], none⟩,⟨.l, .pcall 221 [(.c (.str [121])), (.l 2)], none⟩,⟨.l, .pcall 211 [(.l 1), (.l 3)], none⟩,⟨.l, .mov (.l 4), none⟩,⟨.l, .extract 0 (.l 5), none⟩,⟨.l, .extract 1 (.l 5), none⟩,⟨.l, .extract 2 (.l 5), none⟩,⟨.l, .take (.l 6), none⟩,⟨.l, .take (.l 7), none⟩,⟨.v 7, .take (.l 8), none⟩])
(.seq (.region [⟨.l, .mkslice 1 (.int .i64 0) 2 [(0, (.c (.int .i64 1))), (1, (.c (.int .i64 2)))], none⟩,⟨.l, .pcall 221 [(.c (.str [120])), (.l 0)], none⟩,⟨.l, .mkslice 1 (.int .i64 0) 1 [(0, (.c (.int .i64 3)))], none⟩,⟨.l, .pcall 221 [(.c (.str [120])), (.l 2)], none⟩,⟨.l, .pcall 215 [(.l 1), (.l 3)], none⟩,⟨.l, .mov (.l 4), none⟩,⟨.l, .extract 0 (.l 5), none⟩,⟨.l, .extract 1 (.l 5), none⟩,⟨.v 8, .newloc [.list true [], .list true []], none⟩,⟨.n, .store 2 true (.v 8) (.l 6), none⟩,⟨.v 9, .take (.l 7), none⟩])
(.seq (.region [⟨.l, .mkslice 1 (.int .i64 0) 1 [(0, (.c (.int .i64 1)))], none⟩,⟨.l, .pcall 221 [(.c (.str [120])), (.l 0)], none⟩,⟨.l, .mkslice 1 (.str []) 1 [(0, (.c (.str [121])))], none⟩,⟨.l, .pcall 213 [(.l 1), (.l 2)], none⟩,⟨.l, .mov (.l 3), none⟩,⟨.l, .extract 0 (.l 4), none⟩,⟨.l, .extract 1 (.l 4), none⟩,⟨.v 10, .newloc [.list true [], .list true []], none⟩,⟨.n, .store 2 true (.v 10) (.l 5), none⟩,⟨.v 11, .take (.l 6), none⟩])
(.seq (.region [⟨.l, .mov (.v 1), none⟩,⟨.l, .bin .eql (.l 0) (.c (.int .i64 1)), none⟩,⟨.l, .mov (.l 1), none⟩,⟨.l, .mov (.v 2), some ((.l 2), true)⟩,⟨.l, .bin .eql (.l 3) (.c (.str [120])), some ((.l 2), true)⟩,⟨.l, .pick (.l 2) (.l 4) (.c (.bool false)), none⟩,⟨.l, .mov (.l 5), none⟩,⟨.l, .mov (.v 3), some ((.l 6), true)⟩,⟨.l, .pick (.l 6) (.l 7) (.c (.bool false)), none⟩,⟨.l, .mov (.l 8), none⟩,⟨.l, .mov (.v 4), some ((.l 9), true)⟩,⟨.l, .bin .eql (.l 10) (.c (.int .i64 1)), some ((.l 9), true)⟩,⟨.l, .pick (.l 9) (.l 11) (.c (.bool false)), none⟩,⟨.l, .mov (.l 12), none⟩,⟨.l, .mov (.v 5), some ((.l 13), true)⟩,⟨.l, .bin .eql (.l 14) (.c (.str [120])), some ((.l 13), true)⟩,⟨.l, .pick (.l 13) (.l 15) (.c (.bool false)), none⟩,⟨.l, .mov (.l 16), none⟩,⟨.l, .mov (.v 6), some ((.l 17), true)⟩,⟨.l, .pick (.l 17) (.l 18) (.c (.bool false)), none⟩,⟨.l, .mov (.l 19), none⟩,⟨.l, .mov (.v 7), some ((.l 20), true)⟩,⟨.l, .un .not (.l 21), some ((.l 20), true)⟩,⟨.l, .pick (.l 20) (.l 22) (.c (.bool false)), none⟩,⟨.l, .mov (.l 23), none⟩,⟨.l, .mov (.v 9), some ((.l 24), true)⟩,⟨.l, .bin .eql (.l 25) (.c (.int .i64 0)), some ((.l 24), true)⟩,⟨.l, .pick (.l 24) (.l 26) (.c (.bool false)), none⟩,⟨.l, .mov (.l 27), none⟩,⟨.l, .load 2 true (.v 8) false, some ((.l 28), true)⟩,⟨.l, .mkslice 1 (.int .i64 0) 3 [(0, (.c (.int .i64 1))), (1, (.c (.int .i64 2))), (2, (.c (.int .i64 3)))], some ((.l 28), true)⟩,⟨.l, .pcall 221 [(.c (.str [120])), (.l 30)], some ((.l 28), true)⟩,⟨.l, .pcall 206 [(.l 29), (.l 31)], some ((.l 28), true)⟩,⟨.l, .pick (.l 28) (.l 32) (.c (.bool false)), none⟩,⟨.l, .mov (.l 33), none⟩,⟨.l, .mkslice 1 (.int .i64 0) 1 [(0, (.c (.int .i64 1)))], some ((.l 34), true)⟩,⟨.l, .pcall 221 [(.c (.str [120])), (.l 35)], some ((.l 34), true)⟩,⟨.l, .load 2 true (.v 8) false, some ((.l 34), true)⟩,⟨.l, .pcall 217 [(.l 36), (.l 37)], some ((.l 34), true)⟩,⟨.l, .pick (.l 34) (.l 38) (.c (.bool false)), none⟩,⟨.l, .mov (.l 39), none⟩,⟨.l, .mov (.v 11), some ((.l 40), true)⟩,⟨.l, .bin .eql (.l 41) (.c (.int .i64 6)), some ((.l 40), true)⟩,⟨.l, .pick (.l 40) (.l 42) (.c (.bool false)), none⟩,⟨.v 0, .take (.l 43), none⟩])
.ret))))))),
[.var 0], false, none, none⟩
def f_compare_Same : PFunc := ⟨2, 5,
(.seq (.region [⟨.v 2, .boxloc 2 (.v 0), none⟩,⟨.v 3, .boxloc 2 (.v 1), none⟩,⟨.v 4, .take (.c (.bool false)), none⟩])
(.seq (.region [⟨.l, .faddr 0 (.v 2), none⟩,⟨.l, .load 1 false (.l 0) false, none⟩,⟨.l, .faddr 0 (.v 3), none⟩,⟨.l, .load 1 false (.l 2) false, none⟩,⟨.l, .pcall 222 [(.l 1), (.l 3)], none⟩,⟨.l, .mov (.l 4), none⟩,⟨.l, .faddr 1 (.v 2), some ((.l 5), true)⟩,⟨.l, .load 1 false (.l 6) false, some ((.l 5), true)⟩,⟨.l, .faddr 1 (.v 3), some ((.l 5), true)⟩,⟨.l, .load 1 false (.l 8) false, some ((.l 5), true)⟩,⟨.l, .pcall 223 [(.l 7), (.l 9)], some ((.l 5), true)⟩,⟨.l, .pick (.l 5) (.l 10) (.c (.bool false)), none⟩,⟨.v 4, .take (.l 11), none⟩])
.ret)),
[.var 4], false, none, none⟩
def f_compare_Common_l0 : PC := (.loop (.seq (.branch [⟨.l, .bin .lss (.v 11) (.v 10), none⟩] (.l 0)
.skip
(.exit 0))
(.seq (.block 1 (.seq (.region [⟨.l, .iaddrS 3 (.v 9) (.v 11), none⟩,⟨.l, .h (.loadc 3 true (.l 0)), none⟩,⟨.v 7, .newloc [.str [], .int .i64 0, .list true []], none⟩,⟨.n, .store 3 true (.v 7) (.l 1), none⟩])
(.seq (.region [⟨.l, .mov (.v 5), none⟩,⟨.l, .faddr 0 (.v 7), none⟩,⟨.l, .load 1 false (.l 1) false, none⟩,⟨.l, .h (.lookup true false false [.s] (.int .i64 0) (.l 0) (.l 2)), none⟩,⟨.l, .mov (.l 3), none⟩,⟨.l, .extract 0 (.l 4), none⟩,⟨.l, .extract 1 (.l 4), none⟩,⟨.l, .take (.l 5), none⟩,⟨.v 8, .take (.l 6), none⟩])
(.branch [⟨.l, .mov (.v 8), none⟩,⟨.l, .mov (.l 0), none⟩,⟨.l, .mov (.v 6), some ((.l 1), true)⟩,⟨.l, .faddr 0 (.v 7), some ((.l 1), true)⟩,⟨.l, .load 1 false (.l 3) false, some ((.l 1), true)⟩,⟨.l, .pcall 226 [(.l 2), (.l 4)], some ((.l 1), true)⟩,⟨.l, .un .not (.l 5), some ((.l 1), true)⟩,⟨.l, .pick (.l 1) (.l 6) (.c (.bool false)), none⟩] (.l 7)
(.region [⟨.l, .take (.v 6), none⟩,⟨.l, .faddr 0 (.v 7), none⟩,⟨.l, .load 1 false (.l 1) false, none⟩,⟨.l, .mkslice 1 (.str []) 1 [(0, (.l 2))], none⟩,⟨.l, .append 1 16 (.l 0) (.l 3), none⟩,⟨.v 6, .take (.l 4), none⟩])
.skip))))
(.region [⟨.l, .bin .add (.v 11) (.c (.int .i64 1)), none⟩,⟨.v 11, .mov (.l 0), none⟩]))))
def f_compare_Common : PFunc := ⟨2, 12,
(.seq (.region [⟨.v 2, .boxloc 2 (.v 0), none⟩,⟨.v 3, .boxloc 2 (.v 1), none⟩,⟨.v 4, .take (.c (.list true [])), none⟩])
(.seq (.region [⟨.l, .load 2 true (.v 3) false, none⟩,⟨.l, .h (.call 225 [(.l 0)]), none⟩,⟨.v 5, .take (.l 1), none⟩])
(.seq (.region [⟨.v 6, .take (.c (.list true [])), none⟩])
(.seq (.seq (.region [⟨.l, .faddr 0 (.v 2), none⟩,⟨.v 9, .load 1 false (.l 0) false, none⟩,⟨.v 10, .len false (.v 9), none⟩,⟨.v 11, .mov (.c (.int .i64 0)), none⟩])
(.block 0 f_compare_Common_l0))
(.seq (.region [⟨.l, .mov (.v 6), none⟩,⟨.v 4, .take (.l 0), none⟩])
.ret))))),
[.var 4], false, none, none⟩
def f_compare_First_l0 : PC := (.loop (.seq (.branch [⟨.l, .bin .lss (.v 17) (.v 16), none⟩] (.l 0)
.skip
(.exit 2))
(.seq (.block 3 (.seq (.region [⟨.l, .iaddrS 1 (.v 15) (.v 17), none⟩,⟨.l, .h (.loadc 1 false (.l 0)), none⟩,⟨.v 12, .take (.l 1), none⟩])
(.branch [⟨.l, .faddr 1 (.v 2), none⟩,⟨.l, .load 1 false (.l 0) false, none⟩,⟨.l, .mov (.v 11), none⟩,⟨.l, .iaddrS 1 (.l 1) (.l 2), none⟩,⟨.l, .h (.loadc 1 false (.l 3)), none⟩,⟨.l, .mov (.v 8), none⟩,⟨.l, .mov (.v 12), none⟩,⟨.l, .h (.lookup false false false [.s] (.int .i64 0) (.l 5) (.l 6)), none⟩,⟨.l, .pcall 229 [(.l 4), (.l 7)], none⟩,⟨.l, .faddr 1 (.v 3), none⟩,⟨.l, .load 1 false (.l 9) false, none⟩,⟨.l, .mov (.v 11), none⟩,⟨.l, .iaddrS 1 (.l 10) (.l 11), none⟩,⟨.l, .h (.loadc 1 false (.l 12)), none⟩,⟨.l, .mov (.v 9), none⟩,⟨.l, .mov (.v 12), none⟩,⟨.l, .h (.lookup false false false [.s] (.int .i64 0) (.l 14) (.l 15)), none⟩,⟨.l, .pcall 229 [(.l 13), (.l 16)], none⟩,⟨.l, .eq true true [.i, .i] (.l 8) (.l 17), none⟩] (.l 18)
(.seq (.region [⟨.l, .mov (.v 11), none⟩,⟨.l, .mov (.v 12), none⟩,⟨.v 4, .take (.l 0), none⟩,⟨.v 5, .take (.l 1), none⟩,⟨.v 6, .take (.c (.bool true)), none⟩])
.ret)
.skip)))
(.region [⟨.l, .bin .add (.v 17) (.c (.int .i64 1)), none⟩,⟨.v 17, .mov (.l 0), none⟩]))))
def f_compare_First_l1 : PC := (.loop (.seq (.branch [⟨.l, .bin .lss (.v 14) (.v 13), none⟩] (.l 0)
.skip
(.exit 0))
(.seq (.block 1 (.seq (.region [⟨.l, .mov (.v 14), none⟩,⟨.v 11, .take (.l 0), none⟩])
(.seq (.region [⟨.v 15, .mov (.v 7), none⟩,⟨.v 16, .len false (.v 15), none⟩,⟨.v 17, .mov (.c (.int .i64 0)), none⟩])
(.block 2 f_compare_First_l0))))
(.region [⟨.l, .bin .add (.v 14) (.c (.int .i64 1)), none⟩,⟨.v 14, .mov (.l 0), none⟩]))))
def f_compare_First : PFunc := ⟨2, 18,
(.seq (.region [⟨.v 2, .boxloc 2 (.v 0), none⟩,⟨.v 3, .boxloc 2 (.v 1), none⟩,⟨.v 4, .take (.c (.int .i64 0)), none⟩,⟨.v 5, .take (.c (.str [])), none⟩,⟨.v 6, .take (.c (.bool false)), none⟩])
(.seq (.region [⟨.l, .load 2 true (.v 2) false, none⟩,⟨.l, .load 2 true (.v 3) false, none⟩,⟨.l, .pcall 209 [(.l 0), (.l 1)], none⟩,⟨.v 7, .take (.l 2), none⟩])
(.seq (.branch [⟨.l, .mov (.v 7), none⟩,⟨.l, .len false (.l 0), none⟩,⟨.l, .bin .eql (.l 1) (.c (.int .i64 0)), none⟩] (.l 2)
(.seq (.region [⟨.v 4, .take (.c (.int .i64 0)), none⟩,⟨.v 5, .take (.c (.str [])), none⟩,⟨.v 6, .take (.c (.bool false)), none⟩])
.ret)
.skip)
(.seq (.region [⟨.l, .load 2 true (.v 2) false, none⟩,⟨.l, .h (.call 225 [(.l 0)]), none⟩,⟨.l, .load 2 true (.v 3) false, none⟩,⟨.l, .h (.call 225 [(.l 2)]), none⟩,⟨.v 8, .take (.l 1), none⟩,⟨.v 9, .take (.l 3), none⟩])
(.seq (.region [⟨.l, .faddr 1 (.v 2), none⟩,⟨.l, .load 1 false (.l 0) false, none⟩,⟨.l, .len false (.l 1), none⟩,⟨.l, .faddr 1 (.v 3), none⟩,⟨.l, .load 1 false (.l 3) false, none⟩,⟨.l, .len false (.l 4), none⟩,⟨.l, .minmax false [(.l 2), (.l 5)], none⟩,⟨.v 10, .take (.l 6), none⟩])
(.seq (.seq (.region [⟨.v 13, .mov (.v 10), none⟩,⟨.v 14, .mov (.c (.int .i64 0)), none⟩])
(.block 0 f_compare_First_l1))
(.seq (.branch [⟨.l, .faddr 1 (.v 2), none⟩,⟨.l, .load 1 false (.l 0) false, none⟩,⟨.l, .len false (.l 1), none⟩,⟨.l, .faddr 1 (.v 3), none⟩,⟨.l, .load 1 false (.l 3) false, none⟩,⟨.l, .len false (.l 4), none⟩,⟨.l, .bin .neq (.l 2) (.l 5), none⟩] (.l 6)
(.seq (.region [⟨.l, .mov (.v 10), none⟩,⟨.l, .mov (.v 7), none⟩,⟨.l, .iaddrS 1 (.l 1) (.c (.int .i64 0)), none⟩,⟨.l, .h (.loadc 1 false (.l 2)), none⟩,⟨.v 4, .take (.l 0), none⟩,⟨.v 5, .take (.l 3), none⟩,⟨.v 6, .take (.c (.bool true)), none⟩])
.ret)
.skip)
(.seq (.region [⟨.v 4, .take (.c (.int .i64 0)), none⟩,⟨.v 5, .take (.c (.str [])), none⟩,⟨.v 6, .take (.c (.bool false)), none⟩])
.ret)))))))),
[.var 4, .var 5, .var 6], false, none, none⟩
def f_compare_Project_l0 : PC := (.loop (.seq (.branch [⟨.l, .bin .lss (.v 15) (.v 14), none⟩] (.l 0)
.skip
(.exit 0))
(.seq (.block 1 (.seq (.region [⟨.l, .iaddrS 1 (.v 13) (.v 15), none⟩,⟨.l, .h (.loadc 1 false (.l 0)), none⟩,⟨.v 7, .take (.l 1), none⟩])
(.seq (.region [⟨.l, .mov (.v 5), none⟩,⟨.l, .mov (.v 7), none⟩,⟨.l, .h (.lookup true false false [.s] (.int .i64 0) (.l 0) (.l 1)), none⟩,⟨.l, .mov (.l 2), none⟩,⟨.l, .extract 0 (.l 3), none⟩,⟨.l, .extract 1 (.l 3), none⟩,⟨.v 8, .take (.l 4), none⟩,⟨.v 9, .take (.l 5), none⟩])
(.seq (.branch [⟨.l, .mov (.v 9), none⟩,⟨.l, .un .not (.l 0), none⟩] (.l 1)
(.seq (.region [⟨.l, .build [.list true [], .list true []] [], none⟩,⟨.n, .store 2 true (.v 3) (.l 0), none⟩,⟨.v 4, .take (.c (.int .i64 6)), none⟩])
.ret)
.skip)
(.region [⟨.l, .faddr 0 (.v 6), none⟩,⟨.l, .load 1 false (.l 0) true, none⟩,⟨.l, .faddr 0 (.v 2), none⟩,⟨.l, .load 1 false (.l 2) false, none⟩,⟨.l, .mov (.v 8), none⟩,⟨.l, .iaddrS 3 (.l 3) (.l 4), none⟩,⟨.l, .h (.loadc 3 true (.l 5)), none⟩,⟨.l, .pcall 231 [(.l 6)], none⟩,⟨.l, .mkslice 3 (.agg [.str [], .int .i64 0, .list true []]) 1 [(0, (.l 7))], none⟩,⟨.l, .append 3 48 (.l 1) (.l 8), none⟩,⟨.l, .faddr 0 (.v 6), none⟩,⟨.n, .store 1 false (.l 10) (.l 9), none⟩])))))
(.region [⟨.l, .bin .add (.v 15) (.c (.int .i64 1)), none⟩,⟨.v 15, .mov (.l 0), none⟩]))))
def f_compare_Project_l1 : PC := (.loop (.seq (.branch [⟨.l, .bin .lss (.v 21) (.v 20), none⟩] (.l 0)
.skip
(.exit 4))
(.seq (.block 5 (.seq (.region [⟨.l, .iaddrS 1 (.v 19) (.v 21), none⟩,⟨.l, .h (.loadc 1 false (.l 0)), none⟩,⟨.v 12, .take (.l 1), none⟩])
(.region [⟨.l, .take (.v 11), none⟩,⟨.l, .mov (.v 10), none⟩,⟨.l, .mov (.v 5), none⟩,⟨.l, .mov (.v 12), none⟩,⟨.l, .h (.lookup false false false [.s] (.int .i64 0) (.l 2) (.l 3)), none⟩,⟨.l, .pcall 229 [(.l 1), (.l 4)], none⟩,⟨.l, .mkslice 2 (.agg [.int .i64 0, .int .i64 0]) 1 [(0, (.l 5))], none⟩,⟨.l, .append 2 16 (.l 0) (.l 6), none⟩,⟨.v 11, .take (.l 7), none⟩])))
(.region [⟨.l, .bin .add (.v 21) (.c (.int .i64 1)), none⟩,⟨.v 21, .mov (.l 0), none⟩]))))
def f_compare_Project_l2 : PC := (.loop (.seq (.branch [⟨.l, .bin .lss (.v 18) (.v 17), none⟩] (.l 0)
.skip
(.exit 2))
(.seq (.block 3 (.seq (.region [⟨.l, .iaddrS 1 (.v 16) (.v 18), none⟩,⟨.l, .h (.loadc 1 false (.l 0)), none⟩,⟨.v 10, .take (.l 1), none⟩])
(.seq (.region [⟨.v 11, .take (.c (.list true [])), none⟩])
(.seq (.seq (.region [⟨.v 19, .mov (.v 1), none⟩,⟨.v 20, .len false (.v 19), none⟩,⟨.v 21, .mov (.c (.int .i64 0)), none⟩])
(.block 4 f_compare_Project_l1))
(.region [⟨.l, .faddr 1 (.v 6), none⟩,⟨.l, .load 1 false (.l 0) true, none⟩,⟨.l, .mov (.v 11), none⟩,⟨.l, .mkslice 1 (.list true []) 1 [(0, (.l 2))], none⟩,⟨.l, .append 1 24 (.l 1) (.l 3), none⟩,⟨.l, .faddr 1 (.v 6), none⟩,⟨.n, .store 1 false (.l 5) (.l 4), none⟩])))))
(.region [⟨.l, .bin .add (.v 18) (.c (.int .i64 1)), none⟩,⟨.v 18, .mov (.l 0), none⟩]))))
def f_compare_Project : PFunc := ⟨2, 22,
(.seq (.region [⟨.v 2, .boxloc 2 (.v 0), none⟩,⟨.v 3, .newloc [.list true [], .list true []], none⟩,⟨.v 4, .take (.c (.int .i64 0)), none⟩])
(.seq (.region [⟨.l, .load 2 true (.v 2) false, none⟩,⟨.l, .h (.call 225 [(.l 0)]), none⟩,⟨.v 5, .take (.l 1), none⟩])
(.seq (.region [⟨.v 6, .newloc [.list true [], .list true []], none⟩])
(.seq (.seq (.region [⟨.v 13, .mov (.v 1), none⟩,⟨.v 14, .len false (.v 13), none⟩,⟨.v 15, .mov (.c (.int .i64 0)), none⟩])
(.block 0 f_compare_Project_l0))
(.seq (.seq (.region [⟨.l, .faddr 1 (.v 2), none⟩,⟨.v 16, .load 1 false (.l 0) false, none⟩,⟨.v 17, .len false (.v 16), none⟩,⟨.v 18, .mov (.c (.int .i64 0)), none⟩])
(.block 2 f_compare_Project_l2))
(.seq (.region [⟨.l, .load 2 true (.v 6) false, none⟩,⟨.n, .store 2 true (.v 3) (.l 0), none⟩,⟨.v 4, .take (.c (.int .i64 0)), none⟩])
.ret)))))),
[.cell 3 2 true, .var 4], false, none, none⟩
def f_compare_Append_l0 : PC := (.loop (.seq (.branch [⟨.l, .bin .lss (.v 12) (.v 11), none⟩] (.l 0)
.skip
(.exit 1))
(.seq (.block 2 (.seq (.region [⟨.l, .iaddrS 3 (.v 10) (.v 12), none⟩,⟨.l, .h (.loadc 3 true (.l 0)), none⟩,⟨.v 7, .newloc [.str [], .int .i64 0, .list true []], none⟩,⟨.n, .store 3 true (.v 7) (.l 1), none⟩])
(.region [⟨.l, .faddr 0 (.v 6), none⟩,⟨.l, .load 1 false (.l 0) true, none⟩,⟨.l, .load 3 true (.v 7) false, none⟩,⟨.l, .pcall 231 [(.l 2)], none⟩,⟨.l, .mkslice 3 (.agg [.str [], .int .i64 0, .list true []]) 1 [(0, (.l 3))], none⟩,⟨.l, .append 3 48 (.l 1) (.l 4), none⟩,⟨.l, .faddr 0 (.v 6), none⟩,⟨.n, .store 1 false (.l 6) (.l 5), none⟩])))
(.region [⟨.l, .bin .add (.v 12) (.c (.int .i64 1)), none⟩,⟨.v 12, .mov (.l 0), none⟩]))))
def f_compare_Append_l1 : PC := (.loop (.seq (.branch [⟨.l, .bin .lss (.v 17) (.v 16), none⟩] (.l 0)
.skip
(.exit 5))
(.seq (.block 6 (.seq (.region [⟨.l, .iaddrS 1 (.v 15) (.v 17), none⟩,⟨.l, .h (.loadc 1 false (.l 0)), none⟩,⟨.v 9, .take (.l 1), none⟩])
(.region [⟨.l, .faddr 1 (.v 6), none⟩,⟨.l, .load 1 false (.l 0) true, none⟩,⟨.l, .mov (.v 9), none⟩,⟨.l, .pcall 232 [(.l 2)], none⟩,⟨.l, .mkslice 1 (.list true []) 1 [(0, (.l 3))], none⟩,⟨.l, .append 1 24 (.l 1) (.l 4), none⟩,⟨.l, .faddr 1 (.v 6), none⟩,⟨.n, .store 1 false (.l 6) (.l 5), none⟩])))
(.region [⟨.l, .bin .add (.v 17) (.c (.int .i64 1)), none⟩,⟨.v 17, .mov (.l 0), none⟩]))))
def f_compare_Append_l2 : PC := (.loop (.seq (.branch [⟨.l, .bin .lss (.v 14) (.c (.int .i64 2)), none⟩] (.l 0)
.skip
(.exit 3))
(.seq (.block 4 (.seq (.region [⟨.l, .h (.idxA 2 1 false (.v 13) (.v 14)), none⟩,⟨.v 8, .take (.l 0), none⟩])
(.seq (.region [⟨.v 15, .mov (.v 8), none⟩,⟨.v 16, .len false (.v 15), none⟩,⟨.v 17, .mov (.c (.int .i64 0)), none⟩])
(.block 5 f_compare_Append_l1))))
(.region [⟨.l, .bin .add (.v 14) (.c (.int .i64 1)), none⟩,⟨.v 14, .mov (.l 0), none⟩]))))
def f_compare_Append : PFunc := ⟨2, 18,
(.seq (.region [⟨.v 2, .boxloc 2 (.v 0), none⟩,⟨.v 3, .boxloc 2 (.v 1), none⟩,⟨.v 4, .newloc [.list true [], .list true []], none⟩,⟨.v 5, .take (.c (.int .i64 0)), none⟩])
(.seq (.block 0 (.branch [⟨.l, .faddr 0 (.v 2), none⟩,⟨.l, .load 1 false (.l 0) false, none⟩,⟨.l, .faddr 0 (.v 3), none⟩,⟨.l, .load 1 false (.l 2) false, none⟩,⟨.l, .pcall 222 [(.l 1), (.l 3)], none⟩,⟨.l, .un .not (.l 4), none⟩,⟨.l, .take (.l 5), none⟩] (.l 6)
(.seq (.region [⟨.l, .build [.list true [], .list true []] [], none⟩,⟨.n, .store 2 true (.v 4) (.l 0), none⟩,⟨.v 5, .take (.c (.int .i64 16)), none⟩])
.ret)
(.branch [⟨.l, .faddr 1 (.v 2), none⟩,⟨.l, .load 1 false (.l 0) false, none⟩,⟨.l, .len false (.l 1), none⟩,⟨.l, .faddr 1 (.v 3), none⟩,⟨.l, .load 1 false (.l 3) false, none⟩,⟨.l, .len false (.l 4), none⟩,⟨.l, .bin .add (.l 2) (.l 5), none⟩,⟨.l, .bin .gtr (.l 6) (.c (.int .i64 4096)), none⟩,⟨.l, .take (.l 7), none⟩] (.l 8)
(.seq (.region [⟨.l, .build [.list true [], .list true []] [], none⟩,⟨.n, .store 2 true (.v 4) (.l 0), none⟩,⟨.v 5, .take (.c (.int .i64 3)), none⟩])
.ret)
.skip)))
(.seq (.region [⟨.v 6, .newloc [.list true [], .list true []], none⟩])
(.seq (.seq (.region [⟨.l, .faddr 0 (.v 2), none⟩,⟨.v 10, .load 1 false (.l 0) false, none⟩,⟨.v 11, .len false (.v 10), none⟩,⟨.v 12, .mov (.c (.int .i64 0)), none⟩])
(.block 1 f_compare_Append_l0))
(.seq (.seq (.region [⟨.l, .faddr 1 (.v 2), none⟩,⟨.l, .load 1 false (.l 0) false, none⟩,⟨.l, .faddr 1 (.v 3), none⟩,⟨.l, .load 1 false (.l 2) false, none⟩,⟨.v 13, .h (.barr [.list true [], .list true []] [(0, 1, (.l 1)), (1, 1, (.l 3))]), none⟩,⟨.v 14, .mov (.c (.int .i64 0)), none⟩])
(.block 3 f_compare_Append_l2))
(.seq (.region [⟨.l, .load 2 true (.v 6) false, none⟩,⟨.n, .store 2 true (.v 4) (.l 0), none⟩,⟨.v 5, .take (.c (.int .i64 0)), none⟩])
.ret)))))),
[.cell 4 2 true, .var 5], false, none, none⟩
def f_compare_Prefix : PFunc := ⟨2, 5,
(.seq (.region [⟨.v 2, .boxloc 2 (.v 0), none⟩,⟨.v 3, .boxloc 2 (.v 1), none⟩,⟨.v 4, .take (.c (.bool false)), none⟩])
(.seq (.region [⟨.l, .faddr 0 (.v 2), none⟩,⟨.l, .load 1 false (.l 0) false, none⟩,⟨.l, .faddr 0 (.v 3), none⟩,⟨.l, .load 1 false (.l 2) false, none⟩,⟨.l, .pcall 222 [(.l 1), (.l 3)], none⟩,⟨.l, .mov (.l 4), none⟩,⟨.l, .faddr 1 (.v 2), some ((.l 5), true)⟩,⟨.l, .load 1 false (.l 6) false, some ((.l 5), true)⟩,⟨.l, .len false (.l 7), some ((.l 5), true)⟩,⟨.l, .faddr 1 (.v 3), some ((.l 5), true)⟩,⟨.l, .load 1 false (.l 9) false, some ((.l 5), true)⟩,⟨.l, .len false (.l 10), some ((.l 5), true)⟩,⟨.l, .bin .leq (.l 8) (.l 11), some ((.l 5), true)⟩,⟨.l, .pick (.l 5) (.l 12) (.c (.bool false)), none⟩,⟨.l, .mov (.l 13), none⟩,⟨.l, .faddr 1 (.v 2), some ((.l 14), true)⟩,⟨.l, .load 1 false (.l 15) false, some ((.l 14), true)⟩,⟨.l, .faddr 1 (.v 3), some ((.l 14), true)⟩,⟨.l, .load 1 false (.l 17) false, some ((.l 14), true)⟩,⟨.l, .faddr 1 (.v 2), some ((.l 14), true)⟩,⟨.l, .load 1 false (.l 19) false, some ((.l 14), true)⟩,⟨.l, .len false (.l 20), some ((.l 14), true)⟩,⟨.l, .slice false 1 (.l 18) none (some (.l 21)), some ((.l 14), true)⟩,⟨.l, .pcall 223 [(.l 16), (.l 22)], some ((.l 14), true)⟩,⟨.l, .pick (.l 14) (.l 23) (.c (.bool false)), none⟩,⟨.v 4, .take (.l 24), none⟩])
.ret)),
[.var 4], false, none, none⟩
def f_ref10_Weigh_l0 : PC := (.loop (.seq (.branch [⟨.l, .mov (.v 5), none⟩,⟨.l, .faddr 0 (.v 2), none⟩,⟨.l, .load 1 false (.l 1) false, none⟩,⟨.l, .len false (.l 2), none⟩,⟨.l, .bin .lss (.l 0) (.l 3), none⟩,⟨.l, .mov (.l 4), none⟩,⟨.l, .mov (.v 4), some ((.l 5), true)⟩,⟨.l, .mov (.v 1), some ((.l 5), true)⟩,⟨.l, .bin .lss (.l 6) (.l 7), some ((.l 5), true)⟩,⟨.l, .pick (.l 5) (.l 8) (.c (.bool false)), none⟩] (.l 9)
.skip
(.exit 0))
(.seq (.block 1 (.region [⟨.l, .mov (.v 4), none⟩,⟨.l, .faddr 0 (.v 2), none⟩,⟨.l, .load 1 false (.l 1) false, none⟩,⟨.l, .mov (.v 5), none⟩,⟨.l, .iaddrS 2 (.l 2) (.l 3), none⟩,⟨.l, .faddr 1 (.l 4), none⟩,⟨.l, .h (.loadc 1 false (.l 5)), none⟩,⟨.l, .len false (.l 6), none⟩,⟨.l, .bin .add (.l 0) (.l 7), none⟩,⟨.v 4, .take (.l 8), none⟩]))
(.region [⟨.l, .mov (.v 5), none⟩,⟨.l, .bin .add (.l 0) (.c (.int .i64 1)), none⟩,⟨.v 5, .take (.l 1), none⟩]))))
def f_ref10_Weigh_l1 : PC := (.loop (.seq (.branch [⟨.l, .mov (.v 6), none⟩,⟨.l, .faddr 1 (.v 2), none⟩,⟨.l, .load 1 false (.l 1) false, none⟩,⟨.l, .len false (.l 2), none⟩,⟨.l, .bin .lss (.l 0) (.l 3), none⟩,⟨.l, .mov (.l 4), none⟩,⟨.l, .mov (.v 4), some ((.l 5), true)⟩,⟨.l, .mov (.v 1), some ((.l 5), true)⟩,⟨.l, .bin .lss (.l 6) (.l 7), some ((.l 5), true)⟩,⟨.l, .pick (.l 5) (.l 8) (.c (.bool false)), none⟩] (.l 9)
.skip
(.exit 2))
(.seq (.block 3 (.seq (.region [⟨.l, .faddr 1 (.v 2), none⟩,⟨.l, .load 1 false (.l 0) false, none⟩,⟨.l, .mov (.v 6), none⟩,⟨.l, .iaddrS 8 (.l 1) (.l 2), none⟩,⟨.l, .h (.loadc 8 true (.l 3)), none⟩,⟨.v 7, .newloc [.str [], .list true [], .list true [], .list true [], .list true [], .list true [], .list true [], .list true []], none⟩,⟨.n, .store 8 true (.v 7) (.l 4), none⟩])
(.seq (.region [⟨.l, .mov (.v 4), none⟩,⟨.l, .faddr 1 (.v 7), none⟩,⟨.l, .load 1 false (.l 1) false, none⟩,⟨.l, .mov (.v 1), none⟩,⟨.l, .pcall 234 [(.l 2), (.l 3)], none⟩,⟨.l, .bin .add (.l 0) (.l 4), none⟩,⟨.l, .faddr 2 (.v 7), none⟩,⟨.l, .load 1 false (.l 6) false, none⟩,⟨.l, .mov (.v 1), none⟩,⟨.l, .pcall 234 [(.l 7), (.l 8)], none⟩,⟨.l, .bin .add (.l 5) (.l 9), none⟩,⟨.l, .faddr 3 (.v 7), none⟩,⟨.l, .load 1 false (.l 11) false, none⟩,⟨.l, .mov (.v 1), none⟩,⟨.l, .pcall 234 [(.l 12), (.l 13)], none⟩,⟨.l, .bin .add (.l 10) (.l 14), none⟩,⟨.l, .faddr 4 (.v 7), none⟩,⟨.l, .load 1 false (.l 16) false, none⟩,⟨.l, .mov (.v 1), none⟩,⟨.l, .pcall 235 [(.l 17), (.l 18)], none⟩,⟨.l, .bin .add (.l 15) (.l 19), none⟩,⟨.l, .faddr 6 (.v 7), none⟩,⟨.l, .load 1 false (.l 21) false, none⟩,⟨.l, .mov (.v 1), none⟩,⟨.l, .pcall 236 [(.l 22), (.l 23)], none⟩,⟨.l, .bin .add (.l 20) (.l 24), none⟩,⟨.l, .faddr 7 (.v 7), none⟩,⟨.l, .load 1 false (.l 26) false, none⟩,⟨.l, .mov (.v 1), none⟩,⟨.l, .pcall 236 [(.l 27), (.l 28)], none⟩,⟨.l, .bin .add (.l 25) (.l 29), none⟩,⟨.v 4, .take (.l 30), none⟩])
(.branch [⟨.l, .mov (.v 4), none⟩,⟨.l, .mov (.v 1), none⟩,⟨.l, .bin .lss (.l 0) (.l 1), none⟩] (.l 2)
(.region [⟨.l, .mov (.v 4), none⟩,⟨.l, .faddr 5 (.v 7), none⟩,⟨.l, .load 1 false (.l 1) false, none⟩,⟨.l, .mov (.v 1), none⟩,⟨.l, .mov (.v 4), none⟩,⟨.l, .bin .sub (.l 3) (.l 4), none⟩,⟨.l, .pcall 237 [(.l 2), (.l 5)], none⟩,⟨.l, .bin .add (.l 0) (.l 6), none⟩,⟨.v 4, .take (.l 7), none⟩])
.skip))))
(.region [⟨.l, .mov (.v 6), none⟩,⟨.l, .bin .add (.l 0) (.c (.int .i64 1)), none⟩,⟨.v 6, .take (.l 1), none⟩]))))
def f_ref10_Weigh : PFunc := ⟨2, 8,
(.seq (.region [⟨.v 2, .boxloc 2 (.v 0), none⟩,⟨.v 3, .take (.c (.int .i64 0)), none⟩])
(.seq (.region [⟨.l, .faddr 0 (.v 2), none⟩,⟨.l, .load 1 false (.l 0) false, none⟩,⟨.l, .len false (.l 1), none⟩,⟨.l, .faddr 1 (.v 2), none⟩,⟨.l, .load 1 false (.l 3) false, none⟩,⟨.l, .len false (.l 4), none⟩,⟨.l, .bin .add (.l 2) (.l 5), none⟩,⟨.v 4, .take (.l 6), none⟩])
(.seq (.seq (.region [⟨.v 5, .take (.c (.int .i64 0)), none⟩])
(.block 0 f_ref10_Weigh_l0))
(.seq (.seq (.region [⟨.v 6, .take (.c (.int .i64 0)), none⟩])
(.block 2 f_ref10_Weigh_l1))
(.seq (.region [⟨.l, .mov (.v 4), none⟩,⟨.v 3, .take (.l 0), none⟩])
.ret))))),
[.var 3], false, none, none⟩
def f_law44_column_l0 : PC := (.loop (.seq (.branch [⟨.l, .mov (.v 4), none⟩,⟨.l, .mov (.v 1), none⟩,⟨.l, .len false (.l 1), none⟩,⟨.l, .bin .lss (.l 0) (.l 2), none⟩] (.l 3)
.skip
(.exit 0))
(.seq (.block 1 (.region [⟨.l, .faddr 1 (.v 3), none⟩,⟨.l, .load 1 false (.l 0) true, none⟩,⟨.l, .mov (.v 1), none⟩,⟨.l, .mov (.v 4), none⟩,⟨.l, .iaddrS 1 (.l 2) (.l 3), none⟩,⟨.l, .h (.loadc 1 false (.l 4)), none⟩,⟨.l, .build [.int .i64 0, .int .i64 0] [(0, 1, (.c (.int .i64 1))), (1, 1, (.l 5))], none⟩,⟨.l, .mkslice 2 (.agg [.int .i64 0, .int .i64 0]) 1 [(0, (.l 6))], none⟩,⟨.l, .mkslice 1 (.list true []) 1 [(0, (.l 7))], none⟩,⟨.l, .append 1 24 (.l 1) (.l 8), none⟩,⟨.l, .faddr 1 (.v 3), none⟩,⟨.n, .store 1 false (.l 10) (.l 9), none⟩]))
(.region [⟨.l, .mov (.v 4), none⟩,⟨.l, .bin .add (.l 0) (.c (.int .i64 1)), none⟩,⟨.v 4, .take (.l 1), none⟩]))))
def f_law44_column : PFunc := ⟨2, 5,
(.seq (.region [⟨.v 2, .newloc [.list true [], .list true []], none⟩])
(.seq (.region [⟨.l, .mov (.v 0), none⟩,⟨.l, .build [.str [], .int .i64 0, .list true []] [(0, 1, (.l 0)), (1, 1, (.c (.int .i64 2)))], none⟩,⟨.l, .mkslice 3 (.agg [.str [], .int .i64 0, .list true []]) 1 [(0, (.l 1))], none⟩,⟨.l, .build [.list true [], .list true []] [(0, 1, (.l 2))], none⟩,⟨.v 3, .newloc [.list true [], .list true []], none⟩,⟨.n, .store 2 true (.v 3) (.l 3), none⟩])
(.seq (.seq (.region [⟨.v 4, .take (.c (.int .i64 0)), none⟩])
(.block 0 f_law44_column_l0))
(.seq (.region [⟨.l, .load 2 true (.v 3) false, none⟩,⟨.n, .store 2 true (.v 2) (.l 0), none⟩])
.ret)))),
[.cell 2 2 true], false, none, none⟩
def f_compare_same : PFunc := ⟨2, 3,
(.seq (.region [⟨.v 2, .take (.c (.bool false)), none⟩])
(.seq (.region [⟨.l, .mov (.v 0), none⟩,⟨.l, .mov (.v 1), none⟩,⟨.l, .pcall 238 [(.l 0), (.l 1), (.c (.func 239 [] []))], none⟩,⟨.v 2, .take (.l 2), none⟩])
.ret)),
[.var 2], false, none, none⟩
def f_compare_equal : PFunc := ⟨2, 3,
(.seq (.region [⟨.v 2, .take (.c (.bool false)), none⟩])
(.seq (.region [⟨.l, .mov (.v 0), none⟩,⟨.l, .mov (.v 1), none⟩,⟨.l, .pcall 241 [(.l 0), (.l 1), (.c (.func 242 [] []))], none⟩,⟨.v 2, .take (.l 2), none⟩])
.ret)),
[.var 2], false, none, none⟩
def f_compare_columns_l0 : PC := (.loop (.seq (.branch [⟨.l, .bin .lss (.v 9) (.v 8), none⟩] (.l 0)
.skip
(.exit 0))
(.seq (.block 1 (.seq (.region [⟨.l, .mov (.v 9), none⟩,⟨.l, .iaddrS 3 (.v 7) (.v 9), none⟩,⟨.l, .h (.loadc 3 true (.l 1)), none⟩,⟨.v 5, .newloc [.str [], .int .i64 0, .list true []], none⟩,⟨.v 4, .take (.l 0), none⟩,⟨.n, .store 3 true (.v 5) (.l 2), none⟩])
(.seq (.region [⟨.l, .mov (.v 3), none⟩,⟨.l, .faddr 0 (.v 5), none⟩,⟨.l, .load 1 false (.l 1) false, none⟩,⟨.l, .h (.lookup true false false [.s] (.int .i64 0) (.l 0) (.l 2)), none⟩,⟨.l, .mov (.l 3), none⟩,⟨.l, .extract 0 (.l 4), none⟩,⟨.l, .extract 1 (.l 4), none⟩,⟨.l, .take (.l 5), none⟩,⟨.v 6, .take (.l 6), none⟩])
(.branch [⟨.l, .mov (.v 6), none⟩,⟨.l, .un .not (.l 0), none⟩] (.l 1)
(.region [⟨.l, .mov (.v 3), none⟩,⟨.l, .faddr 0 (.v 5), none⟩,⟨.l, .load 1 false (.l 1) false, none⟩,⟨.l, .mov (.v 4), none⟩,⟨.n, .h (.mset false [.s] (.l 0) (.l 2) (.l 3)), none⟩])
.skip))))
(.region [⟨.l, .bin .add (.v 9) (.c (.int .i64 1)), none⟩,⟨.v 9, .mov (.l 0), none⟩]))))
def f_compare_columns : PFunc := ⟨1, 10,
(.seq (.region [⟨.v 1, .boxloc 2 (.v 0), none⟩,⟨.v 2, .take (.c (.map none)), none⟩])
(.seq (.region [⟨.l, .h (.mkmap), none⟩,⟨.v 3, .take (.l 0), none⟩])
(.seq (.seq (.region [⟨.l, .faddr 0 (.v 1), none⟩,⟨.v 7, .load 1 false (.l 0) false, none⟩,⟨.v 8, .len false (.v 7), none⟩,⟨.v 9, .mov (.c (.int .i64 0)), none⟩])
(.block 0 f_compare_columns_l0))
(.seq (.region [⟨.l, .mov (.v 3), none⟩,⟨.v 2, .take (.l 0), none⟩])
.ret)))),
[.var 2], false, none, none⟩
def f_slices_Contains_string : PFunc := ⟨2, 3,
(.seq (.region [⟨.v 2, .take (.c (.bool false)), none⟩])
(.seq (.region [⟨.l, .mov (.v 0), none⟩,⟨.l, .mov (.v 1), none⟩,⟨.l, .pcall 245 [(.l 0), (.l 1)], none⟩,⟨.l, .bin .geq (.l 2) (.c (.int .i64 0)), none⟩,⟨.v 2, .take (.l 3), none⟩])
.ret)),
[.var 2], false, none, none⟩
def f_compare_cell : PFunc := ⟨2, 3,
(.seq (.region [⟨.v 2, .newloc [.int .i64 0, .int .i64 0], none⟩])
(.seq (.branch [⟨.l, .mov (.v 1), none⟩,⟨.l, .mov (.v 0), none⟩,⟨.l, .len false (.l 1), none⟩,⟨.l, .bin .lss (.l 0) (.l 2), none⟩] (.l 3)
(.seq (.region [⟨.l, .mov (.v 0), none⟩,⟨.l, .mov (.v 1), none⟩,⟨.l, .iaddrS 2 (.l 0) (.l 1), none⟩,⟨.l, .h (.loadc 2 true (.l 2)), none⟩,⟨.n, .store 2 true (.v 2) (.l 3), none⟩])
.ret)
.skip)
(.seq (.region [⟨.l, .build [.int .i64 0, .int .i64 0] [], none⟩,⟨.n, .store 2 true (.v 2) (.l 0), none⟩])
.ret))),
[.cell 2 2 true], false, none, none⟩
def f_compare_copied : PFunc := ⟨1, 3,
(.seq (.region [⟨.v 1, .boxloc 3 (.v 0), none⟩,⟨.v 2, .newloc [.str [], .int .i64 0, .list true []], none⟩])
(.seq (.region [⟨.l, .faddr 2 (.v 1), none⟩,⟨.l, .load 1 false (.l 0) false, none⟩,⟨.l, .pcall 246 [(.l 1)], none⟩,⟨.l, .faddr 2 (.v 1), none⟩,⟨.n, .store 1 false (.l 3) (.l 2), none⟩])
(.seq (.region [⟨.l, .load 3 true (.v 1) false, none⟩,⟨.n, .store 3 true (.v 2) (.l 0), none⟩])
.ret))),
[.cell 2 3 true], false, none, none⟩
def f_slices_Clone_api_Cell : PFunc := ⟨1, 2,
(.seq (.region [⟨.v 1, .take (.c (.list true [])), none⟩])
(.seq (.branch [⟨.l, .mov (.v 0), none⟩,⟨.l, .h (.isnil 0 false (.l 0)), none⟩] (.l 1)
(.seq (.region [⟨.v 1, .take (.c (.list true [])), none⟩])
.ret)
.skip)
(.seq (.region [⟨.l, .mkslice 2 (.agg [.int .i64 0, .int .i64 0]) 0 [], none⟩,⟨.l, .mov (.v 0), none⟩,⟨.l, .append 2 16 (.l 0) (.l 1), none⟩,⟨.v 1, .take (.l 2), none⟩])
.ret))),
[.var 1], true, none, none⟩
def f_ref10_weighDecls_l0 : PC := (.loop (.seq (.branch [⟨.l, .mov (.v 4), none⟩,⟨.l, .mov (.v 0), none⟩,⟨.l, .len false (.l 1), none⟩,⟨.l, .bin .lss (.l 0) (.l 2), none⟩,⟨.l, .mov (.l 3), none⟩,⟨.l, .mov (.v 3), some ((.l 4), true)⟩,⟨.l, .mov (.v 1), some ((.l 4), true)⟩,⟨.l, .bin .lss (.l 5) (.l 6), some ((.l 4), true)⟩,⟨.l, .pick (.l 4) (.l 7) (.c (.bool false)), none⟩] (.l 8)
.skip
(.exit 0))
(.seq (.block 1 (.region [⟨.l, .mov (.v 3), none⟩,⟨.l, .mov (.v 0), none⟩,⟨.l, .mov (.v 4), none⟩,⟨.l, .iaddrS 3 (.l 1) (.l 2), none⟩,⟨.l, .faddr 2 (.l 3), none⟩,⟨.l, .h (.loadc 1 false (.l 4)), none⟩,⟨.l, .len false (.l 5), none⟩,⟨.l, .bin .add (.l 0) (.l 6), none⟩,⟨.l, .mov (.v 0), none⟩,⟨.l, .mov (.v 4), none⟩,⟨.l, .iaddrS 3 (.l 8) (.l 9), none⟩,⟨.l, .faddr 0 (.l 10), none⟩,⟨.l, .h (.loadc 1 false (.l 11)), none⟩,⟨.l, .len true (.l 12), none⟩,⟨.l, .bin .quo (.l 13) (.c (.int .i64 100)), none⟩,⟨.l, .bin .add (.l 7) (.l 14), none⟩,⟨.v 3, .take (.l 15), none⟩]))
(.region [⟨.l, .mov (.v 4), none⟩,⟨.l, .bin .add (.l 0) (.c (.int .i64 1)), none⟩,⟨.v 4, .take (.l 1), none⟩]))))
def f_ref10_weighDecls : PFunc := ⟨2, 5,
(.seq (.region [⟨.v 2, .take (.c (.int .i64 0)), none⟩])
(.seq (.region [⟨.l, .mov (.v 0), none⟩,⟨.l, .len false (.l 0), none⟩,⟨.v 3, .take (.l 1), none⟩])
(.seq (.seq (.region [⟨.v 4, .take (.c (.int .i64 0)), none⟩])
(.block 0 f_ref10_weighDecls_l0))
(.seq (.region [⟨.l, .mov (.v 3), none⟩,⟨.v 2, .take (.l 0), none⟩])
.ret)))),
[.var 2], false, none, none⟩
def f_ref10_weighEqs_l0 : PC := (.loop (.seq (.branch [⟨.l, .mov (.v 4), none⟩,⟨.l, .mov (.v 0), none⟩,⟨.l, .len false (.l 1), none⟩,⟨.l, .bin .lss (.l 0) (.l 2), none⟩,⟨.l, .mov (.l 3), none⟩,⟨.l, .mov (.v 3), some ((.l 4), true)⟩,⟨.l, .mov (.v 1), some ((.l 4), true)⟩,⟨.l, .bin .lss (.l 5) (.l 6), some ((.l 4), true)⟩,⟨.l, .pick (.l 4) (.l 7) (.c (.bool false)), none⟩] (.l 8)
.skip
(.exit 0))
(.seq (.block 1 (.region [⟨.l, .mov (.v 3), none⟩,⟨.l, .mov (.v 0), none⟩,⟨.l, .mov (.v 4), none⟩,⟨.l, .iaddrS 7 (.l 1) (.l 2), none⟩,⟨.l, .faddr 0 (.l 3), none⟩,⟨.l, .h (.loadc 1 false (.l 4)), none⟩,⟨.l, .len false (.l 5), none⟩,⟨.l, .bin .add (.l 0) (.l 6), none⟩,⟨.l, .mov (.v 0), none⟩,⟨.l, .mov (.v 4), none⟩,⟨.l, .iaddrS 7 (.l 8) (.l 9), none⟩,⟨.l, .faddr 1 (.l 10), none⟩,⟨.l, .h (.loadc 6 true (.l 11)), none⟩,⟨.l, .mov (.v 1), none⟩,⟨.l, .pcall 247 [(.l 12), (.l 13)], none⟩,⟨.l, .bin .add (.l 7) (.l 14), none⟩,⟨.v 3, .take (.l 15), none⟩]))
(.region [⟨.l, .mov (.v 4), none⟩,⟨.l, .bin .add (.l 0) (.c (.int .i64 1)), none⟩,⟨.v 4, .take (.l 1), none⟩]))))
def f_ref10_weighEqs : PFunc := ⟨2, 5,
(.seq (.region [⟨.v 2, .take (.c (.int .i64 0)), none⟩])
(.seq (.region [⟨.l, .mov (.v 0), none⟩,⟨.l, .len false (.l 0), none⟩,⟨.v 3, .take (.l 1), none⟩])
(.seq (.seq (.region [⟨.v 4, .take (.c (.int .i64 0)), none⟩])
(.block 0 f_ref10_weighEqs_l0))
(.seq (.region [⟨.l, .mov (.v 3), none⟩,⟨.v 2, .take (.l 0), none⟩])
.ret)))),
[.var 2], false, none, none⟩
def f_ref10_weighExprs_l0 : PC := (.loop (.seq (.branch [⟨.l, .mov (.v 4), none⟩,⟨.l, .mov (.v 0), none⟩,⟨.l, .len false (.l 1), none⟩,⟨.l, .bin .lss (.l 0) (.l 2), none⟩,⟨.l, .mov (.l 3), none⟩,⟨.l, .mov (.v 3), some ((.l 4), true)⟩,⟨.l, .mov (.v 1), some ((.l 4), true)⟩,⟨.l, .bin .lss (.l 5) (.l 6), some ((.l 4), true)⟩,⟨.l, .pick (.l 4) (.l 7) (.c (.bool false)), none⟩] (.l 8)
.skip
(.exit 0))
(.seq (.block 1 (.region [⟨.l, .mov (.v 3), none⟩,⟨.l, .mov (.v 0), none⟩,⟨.l, .mov (.v 4), none⟩,⟨.l, .iaddrS 6 (.l 1) (.l 2), none⟩,⟨.l, .h (.loadc 6 true (.l 3)), none⟩,⟨.l, .mov (.v 1), none⟩,⟨.l, .pcall 247 [(.l 4), (.l 5)], none⟩,⟨.l, .bin .add (.l 0) (.l 6), none⟩,⟨.v 3, .take (.l 7), none⟩]))
(.region [⟨.l, .mov (.v 4), none⟩,⟨.l, .bin .add (.l 0) (.c (.int .i64 1)), none⟩,⟨.v 4, .take (.l 1), none⟩]))))
def f_ref10_weighExprs : PFunc := ⟨2, 5,
(.seq (.region [⟨.v 2, .take (.c (.int .i64 0)), none⟩])
(.seq (.region [⟨.l, .mov (.v 0), none⟩,⟨.l, .len false (.l 0), none⟩,⟨.v 3, .take (.l 1), none⟩])
(.seq (.seq (.region [⟨.v 4, .take (.c (.int .i64 0)), none⟩])
(.block 0 f_ref10_weighExprs_l0))
(.seq (.region [⟨.l, .mov (.v 3), none⟩,⟨.v 2, .take (.l 0), none⟩])
.ret)))),
[.var 2], false, none, none⟩
def f_ref10_weighAutos_l0 : PC := (.loop (.seq (.branch [⟨.l, .mov (.v 5), none⟩,⟨.l, .mov (.v 0), none⟩,⟨.l, .mov (.v 4), none⟩,⟨.l, .iaddrS 1 (.l 1) (.l 2), none⟩,⟨.l, .faddr 0 (.l 3), none⟩,⟨.l, .h (.loadc 1 false (.l 4)), none⟩,⟨.l, .len false (.l 5), none⟩,⟨.l, .bin .lss (.l 0) (.l 6), none⟩,⟨.l, .mov (.l 7), none⟩,⟨.l, .mov (.v 3), some ((.l 8), true)⟩,⟨.l, .mov (.v 1), some ((.l 8), true)⟩,⟨.l, .bin .lss (.l 9) (.l 10), some ((.l 8), true)⟩,⟨.l, .pick (.l 8) (.l 11) (.c (.bool false)), none⟩] (.l 12)
.skip
(.exit 2))
(.seq (.block 3 (.seq (.region [⟨.l, .mov (.v 0), none⟩,⟨.l, .mov (.v 4), none⟩,⟨.l, .iaddrS 1 (.l 0) (.l 1), none⟩,⟨.l, .faddr 0 (.l 2), none⟩,⟨.l, .h (.loadc 1 false (.l 3)), none⟩,⟨.l, .mov (.v 5), none⟩,⟨.l, .iaddrS 6 (.l 4) (.l 5), none⟩,⟨.l, .h (.loadc 6 true (.l 6)), none⟩,⟨.v 6, .newloc [.str [], .list true [], .list true [], .list true [], .list true [], .list true []], none⟩,⟨.n, .store 6 true (.v 6) (.l 7), none⟩])
(.seq (.region [⟨.l, .mov (.v 3), none⟩,⟨.l, .bin .add (.l 0) (.c (.int .i64 1)), none⟩,⟨.l, .faddr 1 (.v 6), none⟩,⟨.l, .load 1 false (.l 2) false, none⟩,⟨.l, .mov (.v 1), none⟩,⟨.l, .pcall 234 [(.l 3), (.l 4)], none⟩,⟨.l, .bin .add (.l 1) (.l 5), none⟩,⟨.l, .faddr 2 (.v 6), none⟩,⟨.l, .load 1 false (.l 7) false, none⟩,⟨.l, .mov (.v 1), none⟩,⟨.l, .pcall 235 [(.l 8), (.l 9)], none⟩,⟨.l, .bin .add (.l 6) (.l 10), none⟩,⟨.l, .faddr 4 (.v 6), none⟩,⟨.l, .load 1 false (.l 12) false, none⟩,⟨.l, .mov (.v 1), none⟩,⟨.l, .pcall 248 [(.l 13), (.l 14)], none⟩,⟨.l, .bin .add (.l 11) (.l 15), none⟩,⟨.l, .faddr 5 (.v 6), none⟩,⟨.l, .load 1 false (.l 17) false, none⟩,⟨.l, .mov (.v 1), none⟩,⟨.l, .pcall 248 [(.l 18), (.l 19)], none⟩,⟨.l, .bin .add (.l 16) (.l 20), none⟩,⟨.v 3, .take (.l 21), none⟩])
(.branch [⟨.l, .mov (.v 3), none⟩,⟨.l, .mov (.v 1), none⟩,⟨.l, .bin .lss (.l 0) (.l 1), none⟩] (.l 2)
(.region [⟨.l, .mov (.v 3), none⟩,⟨.l, .faddr 3 (.v 6), none⟩,⟨.l, .load 1 false (.l 1) false, none⟩,⟨.l, .mov (.v 1), none⟩,⟨.l, .mov (.v 3), none⟩,⟨.l, .bin .sub (.l 3) (.l 4), none⟩,⟨.l, .pcall 237 [(.l 2), (.l 5)], none⟩,⟨.l, .bin .add (.l 0) (.l 6), none⟩,⟨.v 3, .take (.l 7), none⟩])
.skip))))
(.region [⟨.l, .mov (.v 5), none⟩,⟨.l, .bin .add (.l 0) (.c (.int .i64 1)), none⟩,⟨.v 5, .take (.l 1), none⟩]))))
def f_ref10_weighAutos_l1 : PC := (.loop (.seq (.branch [⟨.l, .mov (.v 4), none⟩,⟨.l, .mov (.v 0), none⟩,⟨.l, .len false (.l 1), none⟩,⟨.l, .bin .lss (.l 0) (.l 2), none⟩,⟨.l, .mov (.l 3), none⟩,⟨.l, .mov (.v 3), some ((.l 4), true)⟩,⟨.l, .mov (.v 1), some ((.l 4), true)⟩,⟨.l, .bin .lss (.l 5) (.l 6), some ((.l 4), true)⟩,⟨.l, .pick (.l 4) (.l 7) (.c (.bool false)), none⟩] (.l 8)
.skip
(.exit 0))
(.seq (.block 1 (.seq (.region [⟨.v 5, .take (.c (.int .i64 0)), none⟩])
(.block 2 f_ref10_weighAutos_l0)))
(.region [⟨.l, .mov (.v 4), none⟩,⟨.l, .bin .add (.l 0) (.c (.int .i64 1)), none⟩,⟨.v 4, .take (.l 1), none⟩]))))
def f_ref10_weighAutos : PFunc := ⟨2, 7,
(.seq (.region [⟨.v 2, .take (.c (.int .i64 0)), none⟩])
(.seq (.region [⟨.l, .mov (.v 0), none⟩,⟨.l, .len false (.l 0), none⟩,⟨.v 3, .take (.l 1), none⟩])
(.seq (.seq (.region [⟨.v 4, .take (.c (.int .i64 0)), none⟩])
(.block 0 f_ref10_weighAutos_l1))
(.seq (.region [⟨.l, .mov (.v 3), none⟩,⟨.v 2, .take (.l 0), none⟩])
.ret)))),
[.var 2], false, none, none⟩
def f_slices_EqualFunc_api_Decl_l0 : PC := (.loop (.seq (.branch [⟨.l, .bin .lss (.v 9) (.v 8), none⟩] (.l 0)
.skip
(.exit 0))
(.seq (.block 1 (.seq (.region [⟨.l, .mov (.v 9), none⟩,⟨.l, .iaddrS 3 (.v 7) (.v 9), none⟩,⟨.l, .h (.loadc 3 true (.l 1)), none⟩,⟨.v 5, .newloc [.str [], .int .i64 0, .list true []], none⟩,⟨.v 4, .take (.l 0), none⟩,⟨.n, .store 3 true (.v 5) (.l 2), none⟩])
(.seq (.region [⟨.l, .mov (.v 1), none⟩,⟨.l, .mov (.v 4), none⟩,⟨.l, .iaddrS 3 (.l 0) (.l 1), none⟩,⟨.l, .h (.loadc 3 true (.l 2)), none⟩,⟨.v 6, .newloc [.str [], .int .i64 0, .list true []], none⟩,⟨.n, .store 3 true (.v 6) (.l 3), none⟩])
(.branch [⟨.l, .mov (.v 2), none⟩,⟨.l, .load 3 true (.v 5) false, none⟩,⟨.l, .load 3 true (.v 6) false, none⟩,⟨.l, .h (.callv (.l 0) [(.l 1), (.l 2)]), none⟩,⟨.l, .un .not (.l 3), none⟩] (.l 4)
(.seq (.region [⟨.v 3, .take (.c (.bool false)), none⟩])
.ret)
.skip))))
(.region [⟨.l, .bin .add (.v 9) (.c (.int .i64 1)), none⟩,⟨.v 9, .mov (.l 0), none⟩]))))
def f_slices_EqualFunc_api_Decl : PFunc := ⟨3, 10,
(.seq (.region [⟨.v 3, .take (.c (.bool false)), none⟩])
(.seq (.branch [⟨.l, .mov (.v 0), none⟩,⟨.l, .len false (.l 0), none⟩,⟨.l, .mov (.v 1), none⟩,⟨.l, .len false (.l 2), none⟩,⟨.l, .bin .neq (.l 1) (.l 3), none⟩] (.l 4)
(.seq (.region [⟨.v 3, .take (.c (.bool false)), none⟩])
.ret)
.skip)
(.seq (.seq (.region [⟨.v 7, .mov (.v 0), none⟩,⟨.v 8, .len false (.v 7), none⟩,⟨.v 9, .mov (.c (.int .i64 0)), none⟩])
(.block 0 f_slices_EqualFunc_api_Decl_l0))
(.seq (.region [⟨.v 3, .take (.c (.bool true)), none⟩])
.ret)))),
[.var 3], false, none, none⟩
def f_compare_same_1 : PFunc := ⟨2, 5,
(.seq (.region [⟨.v 2, .boxloc 3 (.v 0), none⟩,⟨.v 3, .boxloc 3 (.v 1), none⟩,⟨.v 4, .take (.c (.bool false)), none⟩])
(.seq (.region [⟨.l, .faddr 0 (.v 2), none⟩,⟨.l, .load 1 false (.l 0) false, none⟩,⟨.l, .faddr 0 (.v 3), none⟩,⟨.l, .load 1 false (.l 2) false, none⟩,⟨.l, .bin .eql (.l 1) (.l 3), none⟩,⟨.l, .mov (.l 4), none⟩,⟨.l, .faddr 1 (.v 2), some ((.l 5), true)⟩,⟨.l, .load 1 false (.l 6) false, some ((.l 5), true)⟩,⟨.l, .faddr 1 (.v 3), some ((.l 5), true)⟩,⟨.l, .load 1 false (.l 8) false, some ((.l 5), true)⟩,⟨.l, .bin .eql (.l 7) (.l 9), some ((.l 5), true)⟩,⟨.l, .pick (.l 5) (.l 10) (.c (.bool false)), none⟩,⟨.l, .mov (.l 11), none⟩,⟨.l, .faddr 2 (.v 2), some ((.l 12), true)⟩,⟨.l, .load 1 false (.l 13) false, some ((.l 12), true)⟩,⟨.l, .faddr 2 (.v 3), some ((.l 12), true)⟩,⟨.l, .load 1 false (.l 15) false, some ((.l 12), true)⟩,⟨.l, .pcall 240 [(.l 14), (.l 16)], some ((.l 12), true)⟩,⟨.l, .pick (.l 12) (.l 17) (.c (.bool false)), none⟩,⟨.v 4, .take (.l 18), none⟩])
.ret)),
[.var 4], false, none, none⟩
def f_slices_Equal_api_On_l0 : PC := (.loop (.seq (.branch [⟨.l, .bin .lss (.v 5) (.v 4), none⟩] (.l 0)
.skip
(.exit 0))
(.seq (.block 1 (.seq (.region [⟨.l, .mov (.v 5), none⟩,⟨.v 3, .take (.l 0), none⟩])
(.branch [⟨.l, .mov (.v 0), none⟩,⟨.l, .mov (.v 3), none⟩,⟨.l, .iaddrS 3 (.l 0) (.l 1), none⟩,⟨.l, .h (.loadc 3 true (.l 2)), none⟩,⟨.l, .mov (.v 1), none⟩,⟨.l, .mov (.v 3), none⟩,⟨.l, .iaddrS 3 (.l 4) (.l 5), none⟩,⟨.l, .h (.loadc 3 true (.l 6)), none⟩,⟨.l, .eq true true [.s, .i, .i] (.l 3) (.l 7), none⟩] (.l 8)
(.seq (.region [⟨.v 2, .take (.c (.bool false)), none⟩])
.ret)
.skip)))
(.region [⟨.l, .bin .add (.v 5) (.c (.int .i64 1)), none⟩,⟨.v 5, .mov (.l 0), none⟩]))))
def f_slices_Equal_api_On : PFunc := ⟨2, 6,
(.seq (.region [⟨.v 2, .take (.c (.bool false)), none⟩])
(.seq (.branch [⟨.l, .mov (.v 0), none⟩,⟨.l, .len false (.l 0), none⟩,⟨.l, .mov (.v 1), none⟩,⟨.l, .len false (.l 2), none⟩,⟨.l, .bin .neq (.l 1) (.l 3), none⟩] (.l 4)
(.seq (.region [⟨.v 2, .take (.c (.bool false)), none⟩])
.ret)
.skip)
(.seq (.seq (.region [⟨.l, .mov (.v 0), none⟩,⟨.v 4, .len false (.l 0), none⟩,⟨.v 5, .mov (.c (.int .i64 0)), none⟩])
(.block 0 f_slices_Equal_api_On_l0))
(.seq (.region [⟨.v 2, .take (.c (.bool true)), none⟩])
.ret)))),
[.var 2], false, none, none⟩
def f_slices_EqualFunc_api_Cell_l0 : PC := (.loop (.seq (.branch [⟨.l, .bin .lss (.v 9) (.v 8), none⟩] (.l 0)
.skip
(.exit 0))
(.seq (.block 1 (.seq (.region [⟨.l, .mov (.v 9), none⟩,⟨.l, .iaddrS 1 (.v 7) (.v 9), none⟩,⟨.l, .h (.loadc 1 false (.l 1)), none⟩,⟨.v 4, .take (.l 0), none⟩,⟨.v 5, .take (.l 2), none⟩])
(.seq (.region [⟨.l, .mov (.v 1), none⟩,⟨.l, .mov (.v 4), none⟩,⟨.l, .iaddrS 1 (.l 0) (.l 1), none⟩,⟨.l, .h (.loadc 1 false (.l 2)), none⟩,⟨.v 6, .take (.l 3), none⟩])
(.branch [⟨.l, .mov (.v 2), none⟩,⟨.l, .mov (.v 5), none⟩,⟨.l, .mov (.v 6), none⟩,⟨.l, .h (.callv (.l 0) [(.l 1), (.l 2)]), none⟩,⟨.l, .un .not (.l 3), none⟩] (.l 4)
(.seq (.region [⟨.v 3, .take (.c (.bool false)), none⟩])
.ret)
.skip))))
(.region [⟨.l, .bin .add (.v 9) (.c (.int .i64 1)), none⟩,⟨.v 9, .mov (.l 0), none⟩]))))
def f_slices_EqualFunc_api_Cell : PFunc := ⟨3, 10,
(.seq (.region [⟨.v 3, .take (.c (.bool false)), none⟩])
(.seq (.branch [⟨.l, .mov (.v 0), none⟩,⟨.l, .len false (.l 0), none⟩,⟨.l, .mov (.v 1), none⟩,⟨.l, .len false (.l 2), none⟩,⟨.l, .bin .neq (.l 1) (.l 3), none⟩] (.l 4)
(.seq (.region [⟨.v 3, .take (.c (.bool false)), none⟩])
.ret)
.skip)
(.seq (.seq (.region [⟨.v 7, .mov (.v 0), none⟩,⟨.v 8, .len false (.v 7), none⟩,⟨.v 9, .mov (.c (.int .i64 0)), none⟩])
(.block 0 f_slices_EqualFunc_api_Cell_l0))
(.seq (.region [⟨.v 3, .take (.c (.bool true)), none⟩])
.ret)))),
[.var 3], false, none, none⟩
def f_compare_equal_1 : PFunc := ⟨2, 3,
(.seq (.region [⟨.v 2, .take (.c (.bool false)), none⟩])
(.seq (.region [⟨.l, .mov (.v 0), none⟩,⟨.l, .mov (.v 1), none⟩,⟨.l, .pcall 243 [(.l 0), (.l 1)], none⟩,⟨.v 2, .take (.l 2), none⟩])
.ret)),
[.var 2], false, none, none⟩
def f_slices_Equal_api_Cell_l0 : PC := (.loop (.seq (.branch [⟨.l, .bin .lss (.v 5) (.v 4), none⟩] (.l 0)
.skip
(.exit 0))
(.seq (.block 1 (.seq (.region [⟨.l, .mov (.v 5), none⟩,⟨.v 3, .take (.l 0), none⟩])
(.branch [⟨.l, .mov (.v 0), none⟩,⟨.l, .mov (.v 3), none⟩,⟨.l, .iaddrS 2 (.l 0) (.l 1), none⟩,⟨.l, .h (.loadc 2 true (.l 2)), none⟩,⟨.l, .mov (.v 1), none⟩,⟨.l, .mov (.v 3), none⟩,⟨.l, .iaddrS 2 (.l 4) (.l 5), none⟩,⟨.l, .h (.loadc 2 true (.l 6)), none⟩,⟨.l, .eq true true [.i, .i] (.l 3) (.l 7), none⟩] (.l 8)
(.seq (.region [⟨.v 2, .take (.c (.bool false)), none⟩])
.ret)
.skip)))
(.region [⟨.l, .bin .add (.v 5) (.c (.int .i64 1)), none⟩,⟨.v 5, .mov (.l 0), none⟩]))))
def f_slices_Equal_api_Cell : PFunc := ⟨2, 6,
(.seq (.region [⟨.v 2, .take (.c (.bool false)), none⟩])
(.seq (.branch [⟨.l, .mov (.v 0), none⟩,⟨.l, .len false (.l 0), none⟩,⟨.l, .mov (.v 1), none⟩,⟨.l, .len false (.l 2), none⟩,⟨.l, .bin .neq (.l 1) (.l 3), none⟩] (.l 4)
(.seq (.region [⟨.v 2, .take (.c (.bool false)), none⟩])
.ret)
.skip)
(.seq (.seq (.region [⟨.l, .mov (.v 0), none⟩,⟨.v 4, .len false (.l 0), none⟩,⟨.v 5, .mov (.c (.int .i64 0)), none⟩])
(.block 0 f_slices_Equal_api_Cell_l0))
(.seq (.region [⟨.v 2, .take (.c (.bool true)), none⟩])
.ret)))),
[.var 2], false, none, none⟩
def f_slices_Index_string_l0 : PC := (.loop (.seq (.branch [⟨.l, .bin .lss (.v 5) (.v 4), none⟩] (.l 0)
.skip
(.exit 0))
(.seq (.block 1 (.seq (.region [⟨.l, .mov (.v 5), none⟩,⟨.v 3, .take (.l 0), none⟩])
(.branch [⟨.l, .mov (.v 1), none⟩,⟨.l, .mov (.v 0), none⟩,⟨.l, .mov (.v 3), none⟩,⟨.l, .iaddrS 1 (.l 1) (.l 2), none⟩,⟨.l, .h (.loadc 1 false (.l 3)), none⟩,⟨.l, .bin .eql (.l 0) (.l 4), none⟩] (.l 5)
(.seq (.region [⟨.l, .mov (.v 3), none⟩,⟨.v 2, .take (.l 0), none⟩])
.ret)
.skip)))
(.region [⟨.l, .bin .add (.v 5) (.c (.int .i64 1)), none⟩,⟨.v 5, .mov (.l 0), none⟩]))))
def f_slices_Index_string : PFunc := ⟨2, 6,
(.seq (.region [⟨.v 2, .take (.c (.int .i64 0)), none⟩])
(.seq (.seq (.region [⟨.l, .mov (.v 0), none⟩,⟨.v 4, .len false (.l 0), none⟩,⟨.v 5, .mov (.c (.int .i64 0)), none⟩])
(.block 0 f_slices_Index_string_l0))
(.seq (.region [⟨.v 2, .take (.c (.int .i64 (-1))), none⟩])
.ret))),
[.var 2], false, none, none⟩
def f_slices_Clone_api_On : PFunc := ⟨1, 2,
(.seq (.region [⟨.v 1, .take (.c (.list true [])), none⟩])
(.seq (.branch [⟨.l, .mov (.v 0), none⟩,⟨.l, .h (.isnil 0 false (.l 0)), none⟩] (.l 1)
(.seq (.region [⟨.v 1, .take (.c (.list true [])), none⟩])
.ret)
.skip)
(.seq (.region [⟨.l, .mkslice 3 (.agg [.str [], .int .i64 0, .int .i64 0]) 0 [], none⟩,⟨.l, .mov (.v 0), none⟩,⟨.l, .append 3 32 (.l 0) (.l 1), none⟩,⟨.v 1, .take (.l 2), none⟩])
.ret))),
[.var 1], true, none, none⟩
def f_ref06_Weigh_l0 : PC := (.loop (.seq (.branch [⟨.l, .mov (.v 5), none⟩,⟨.l, .faddr 5 (.v 2), none⟩,⟨.l, .load 1 false (.l 1) false, none⟩,⟨.l, .len false (.l 2), none⟩,⟨.l, .bin .lss (.l 0) (.l 3), none⟩,⟨.l, .mov (.l 4), none⟩,⟨.l, .mov (.v 4), some ((.l 5), true)⟩,⟨.l, .mov (.v 1), some ((.l 5), true)⟩,⟨.l, .bin .lss (.l 6) (.l 7), some ((.l 5), true)⟩,⟨.l, .pick (.l 5) (.l 8) (.c (.bool false)), none⟩] (.l 9)
.skip
(.exit 0))
(.seq (.block 1 (.region [⟨.l, .mov (.v 4), none⟩,⟨.l, .faddr 5 (.v 2), none⟩,⟨.l, .load 1 false (.l 1) false, none⟩,⟨.l, .mov (.v 5), none⟩,⟨.l, .iaddrS 6 (.l 2) (.l 3), none⟩,⟨.l, .h (.loadc 6 true (.l 4)), none⟩,⟨.l, .mov (.v 1), none⟩,⟨.l, .mov (.v 4), none⟩,⟨.l, .bin .sub (.l 6) (.l 7), none⟩,⟨.l, .pcall 247 [(.l 5), (.l 8)], none⟩,⟨.l, .bin .add (.l 0) (.l 9), none⟩,⟨.v 4, .take (.l 10), none⟩]))
(.region [⟨.l, .mov (.v 5), none⟩,⟨.l, .bin .add (.l 0) (.c (.int .i64 1)), none⟩,⟨.v 5, .take (.l 1), none⟩]))))
def f_ref06_Weigh : PFunc := ⟨2, 6,
(.seq (.region [⟨.v 2, .boxloc 6 (.v 0), none⟩,⟨.v 3, .take (.c (.int .i64 0)), none⟩])
(.seq (.region [⟨.v 4, .take (.c (.int .i64 1)), none⟩])
(.seq (.seq (.region [⟨.v 5, .take (.c (.int .i64 0)), none⟩])
(.block 0 f_ref06_Weigh_l0))
(.seq (.region [⟨.l, .mov (.v 4), none⟩,⟨.l, .mov (.v 1), none⟩,⟨.l, .minmax false [(.l 0), (.l 1)], none⟩,⟨.v 3, .take (.l 2), none⟩])
.ret)))),
[.var 3], false, none, none⟩
def f_ref10_weighTrans_l0 : PC := (.loop (.seq (.branch [⟨.l, .mov (.v 4), none⟩,⟨.l, .mov (.v 0), none⟩,⟨.l, .len false (.l 1), none⟩,⟨.l, .bin .lss (.l 0) (.l 2), none⟩,⟨.l, .mov (.l 3), none⟩,⟨.l, .mov (.v 3), some ((.l 4), true)⟩,⟨.l, .mov (.v 1), some ((.l 4), true)⟩,⟨.l, .bin .lss (.l 5) (.l 6), some ((.l 4), true)⟩,⟨.l, .pick (.l 4) (.l 7) (.c (.bool false)), none⟩] (.l 8)
.skip
(.exit 0))
(.seq (.block 1 (.region [⟨.l, .mov (.v 3), none⟩,⟨.l, .mov (.v 0), none⟩,⟨.l, .mov (.v 4), none⟩,⟨.l, .iaddrS 8 (.l 1) (.l 2), none⟩,⟨.l, .faddr 0 (.l 3), none⟩,⟨.l, .h (.loadc 6 true (.l 4)), none⟩,⟨.l, .mov (.v 1), none⟩,⟨.l, .pcall 247 [(.l 5), (.l 6)], none⟩,⟨.l, .bin .add (.l 0) (.l 7), none⟩,⟨.v 3, .take (.l 8), none⟩]))
(.region [⟨.l, .mov (.v 4), none⟩,⟨.l, .bin .add (.l 0) (.c (.int .i64 1)), none⟩,⟨.v 4, .take (.l 1), none⟩]))))
def f_ref10_weighTrans : PFunc := ⟨2, 5,
(.seq (.region [⟨.v 2, .take (.c (.int .i64 0)), none⟩])
(.seq (.region [⟨.l, .mov (.v 0), none⟩,⟨.l, .len false (.l 0), none⟩,⟨.v 3, .take (.l 1), none⟩])
(.seq (.seq (.region [⟨.v 4, .take (.c (.int .i64 0)), none⟩])
(.block 0 f_ref10_weighTrans_l0))
(.seq (.region [⟨.l, .mov (.v 3), none⟩,⟨.v 2, .take (.l 0), none⟩])
.ret)))),
[.var 2], false, none, none⟩
def f_law44_CompareTexts_l0 : PC := (.loop (.seq (.branch [⟨.l, .mov (.v 11), none⟩,⟨.l, .faddr 0 (.v 2), none⟩,⟨.l, .load 1 false (.l 1) false, none⟩,⟨.l, .len false (.l 2), none⟩,⟨.l, .bin .lss (.l 0) (.l 3), none⟩] (.l 4)
.skip
(.exit 0))
(.seq (.block 1 (.region [⟨.l, .take (.v 10), none⟩,⟨.l, .faddr 0 (.v 2), none⟩,⟨.l, .load 1 false (.l 1) false, none⟩,⟨.l, .mov (.v 11), none⟩,⟨.l, .iaddrS 3 (.l 2) (.l 3), none⟩,⟨.l, .faddr 0 (.l 4), none⟩,⟨.l, .h (.loadc 1 false (.l 5)), none⟩,⟨.l, .mkslice 1 (.str []) 1 [(0, (.l 6))], none⟩,⟨.l, .append 1 16 (.l 0) (.l 7), none⟩,⟨.v 10, .take (.l 8), none⟩]))
(.region [⟨.l, .mov (.v 11), none⟩,⟨.l, .bin .add (.l 0) (.c (.int .i64 1)), none⟩,⟨.v 11, .take (.l 1), none⟩]))))
def f_law44_CompareTexts : PFunc := ⟨2, 16,
(.seq (.region [⟨.v 2, .boxloc 2 (.v 1), none⟩,⟨.v 3, .take (.c (.bool false)), none⟩])
(.seq (.branch [⟨.l, .load 2 true (.v 2) false, none⟩,⟨.l, .pcall 204 [(.l 0)], none⟩,⟨.l, .mov (.l 1), none⟩,⟨.l, .mov (.v 0), some ((.l 2), false)⟩,⟨.l, .build [.list true [], .list true []] [(0, 1, (.l 3))], some ((.l 2), false)⟩,⟨.l, .pcall 220 [(.l 4), (.c (.int .i64 600))], some ((.l 2), false)⟩,⟨.l, .bin .geq (.l 5) (.c (.int .i64 600)), some ((.l 2), false)⟩,⟨.l, .pick (.l 2) (.c (.bool true)) (.l 6), none⟩] (.l 7)
(.seq (.region [⟨.l, .pcall 205 [], none⟩,⟨.v 3, .take (.l 0), none⟩])
.ret)
.skip)
(.seq (.region [⟨.l, .mov (.v 0), none⟩,⟨.l, .build [.list true [], .list true []] [(0, 1, (.l 0))], none⟩,⟨.l, .pcall 301 [(.l 1)], none⟩,⟨.l, .mov (.l 2), none⟩,⟨.l, .extract 0 (.l 3), none⟩,⟨.l, .extract 1 (.l 3), none⟩,⟨.v 4, .newloc [.int .i64 0, .int .i64 0], none⟩,⟨.n, .store 2 true (.v 4) (.l 4), none⟩,⟨.v 5, .take (.l 5), none⟩])
(.seq (.region [⟨.l, .mov (.v 0), none⟩,⟨.l, .load 2 true (.v 2) false, none⟩,⟨.l, .pcall 6 [(.l 0), (.l 1)], none⟩,⟨.l, .mov (.l 2), none⟩,⟨.l, .extract 0 (.l 3), none⟩,⟨.l, .extract 1 (.l 3), none⟩,⟨.v 6, .take (.l 4), none⟩,⟨.v 7, .take (.l 5), none⟩])
(.seq (.branch [⟨.l, .mov (.v 5), none⟩,⟨.l, .bin .neq (.l 0) (.c (.int .i64 0)), none⟩,⟨.l, .mov (.l 1), none⟩,⟨.l, .mov (.v 7), some ((.l 2), false)⟩,⟨.l, .bin .neq (.l 3) (.c (.int .i64 0)), some ((.l 2), false)⟩,⟨.l, .pick (.l 2) (.c (.bool true)) (.l 4), none⟩] (.l 5)
(.seq (.region [⟨.l, .pcall 205 [], none⟩,⟨.v 3, .take (.l 0), none⟩])
.ret)
.skip)
(.seq (.region [⟨.l, .mov (.v 0), none⟩,⟨.l, .mov (.v 6), none⟩,⟨.l, .pcall 8 [(.l 0), (.l 1)], none⟩,⟨.l, .mov (.l 2), none⟩,⟨.l, .extract 0 (.l 3), none⟩,⟨.l, .extract 1 (.l 3), none⟩,⟨.l, .extract 2 (.l 3), none⟩,⟨.v 8, .newloc [.list true [], .list true []], none⟩,⟨.n, .store 2 true (.v 8) (.l 4), none⟩,⟨.l, .take (.l 5), none⟩,⟨.v 9, .take (.l 6), none⟩])
(.seq (.region [⟨.v 10, .take (.c (.list true [])), none⟩])
(.seq (.seq (.region [⟨.v 11, .take (.c (.int .i64 0)), none⟩])
(.block 0 f_law44_CompareTexts_l0))
(.seq (.region [⟨.l, .load 2 true (.v 2) false, none⟩,⟨.l, .mov (.v 10), none⟩,⟨.l, .pcall 213 [(.l 0), (.l 1)], none⟩,⟨.l, .mov (.l 2), none⟩,⟨.l, .extract 0 (.l 3), none⟩,⟨.l, .extract 1 (.l 3), none⟩,⟨.v 12, .newloc [.list true [], .list true []], none⟩,⟨.n, .store 2 true (.v 12) (.l 4), none⟩,⟨.v 13, .take (.l 5), none⟩])
(.seq (.region [⟨.l, .mov (.v 0), none⟩,⟨.l, .load 2 true (.v 12) false, none⟩,⟨.l, .pcall 6 [(.l 0), (.l 1)], none⟩,⟨.l, .mov (.l 2), none⟩,⟨.l, .extract 0 (.l 3), none⟩,⟨.l, .extract 1 (.l 3), none⟩,⟨.v 14, .take (.l 4), none⟩,⟨.v 15, .take (.l 5), none⟩])
(.seq (.region [⟨.l, .mov (.v 9), none⟩,⟨.l, .bin .eql (.l 0) (.c (.int .i64 0)), none⟩,⟨.l, .mov (.l 1), none⟩,⟨.l, .load 2 true (.v 2) false, some ((.l 2), true)⟩,⟨.l, .load 2 true (.v 8) false, some ((.l 2), true)⟩,⟨.l, .pcall 206 [(.l 3), (.l 4)], some ((.l 2), true)⟩,⟨.l, .pick (.l 2) (.l 5) (.c (.bool false)), none⟩,⟨.l, .mov (.l 6), none⟩,⟨.l, .mov (.v 13), some ((.l 7), true)⟩,⟨.l, .bin .eql (.l 8) (.c (.int .i64 0)), some ((.l 7), true)⟩,⟨.l, .pick (.l 7) (.l 9) (.c (.bool false)), none⟩,⟨.l, .mov (.l 10), none⟩,⟨.l, .mov (.v 15), some ((.l 11), true)⟩,⟨.l, .bin .eql (.l 12) (.c (.int .i64 0)), some ((.l 11), true)⟩,⟨.l, .pick (.l 11) (.l 13) (.c (.bool false)), none⟩,⟨.l, .mov (.l 14), none⟩,⟨.l, .mov (.v 14), some ((.l 15), true)⟩,⟨.l, .mov (.v 6), some ((.l 15), true)⟩,⟨.l, .bin .eql (.l 16) (.l 17), some ((.l 15), true)⟩,⟨.l, .pick (.l 15) (.l 18) (.c (.bool false)), none⟩,⟨.l, .mov (.l 19), none⟩,⟨.l, .pcall 205 [], some ((.l 20), true)⟩,⟨.l, .pick (.l 20) (.l 21) (.c (.bool false)), none⟩,⟨.v 3, .take (.l 22), none⟩])
.ret))))))))))),
[.var 3], false, none, none⟩
def f_scope_Check_l0 : PC := (.loop (.seq (.branch [⟨.l, .bin .lss (.v 17) (.v 16), none⟩] (.l 0)
.skip
(.exit 2))
(.seq (.block 3 (.seq (.region [⟨.l, .iaddrS 1 (.v 15) (.v 17), none⟩,⟨.l, .h (.loadc 1 false (.l 0)), none⟩,⟨.v 9, .take (.l 1), none⟩])
(.bregion [⟨.l, .mov (.v 6), none⟩,⟨.l, .mov (.v 9), none⟩,⟨.l, .build [.int .i64 0, .str []] [(0, 1, (.c (.int .i64 0))), (1, 1, (.l 1))], none⟩,⟨.l, .mov (.v 7), none⟩,⟨.l, .h (.bcall 304 [(.l 0), (.l 2), (.l 3)]), none⟩])))
(.region [⟨.l, .bin .add (.v 17) (.c (.int .i64 1)), none⟩,⟨.v 17, .mov (.l 0), none⟩]))))
def f_scope_Check_l1 : PC := (.loop (.seq (.branch [⟨.l, .bin .lss (.v 14) (.v 13), none⟩] (.l 0)
.skip
(.exit 0))
(.seq (.block 1 (.seq (.region [⟨.l, .mov (.v 14), none⟩,⟨.l, .iaddrS 2 (.v 12) (.v 14), none⟩,⟨.l, .h (.loadc 2 true (.l 1)), none⟩,⟨.v 8, .newloc [.str [], .list true []], none⟩,⟨.v 7, .take (.l 0), none⟩,⟨.n, .store 2 true (.v 8) (.l 2), none⟩])
(.seq (.bregion [⟨.l, .mov (.v 6), none⟩,⟨.l, .faddr 0 (.v 8), none⟩,⟨.l, .load 1 false (.l 1) false, none⟩,⟨.l, .build [.int .i64 0, .str []] [(0, 1, (.c (.int .i64 2))), (1, 1, (.l 2))], none⟩,⟨.l, .mov (.v 7), none⟩,⟨.l, .h (.bcall 304 [(.l 0), (.l 3), (.l 4)]), none⟩])
(.seq (.region [⟨.l, .faddr 1 (.v 8), none⟩,⟨.v 15, .load 1 false (.l 0) false, none⟩,⟨.v 16, .len false (.v 15), none⟩,⟨.v 17, .mov (.c (.int .i64 0)), none⟩])
(.block 2 f_scope_Check_l0)))))
(.region [⟨.l, .bin .add (.v 14) (.c (.int .i64 1)), none⟩,⟨.v 14, .mov (.l 0), none⟩]))))
def f_scope_Check_l2 : PC := (.loop (.seq (.branch [⟨.l, .bin .lss (.v 19) (.v 18), none⟩] (.l 0)
.skip
(.exit 4))
(.seq (.block 5 (.seq (.region [⟨.l, .mov (.v 19), none⟩,⟨.v 10, .take (.l 0), none⟩])
(.region [⟨.l, .mov (.v 6), none⟩,⟨.l, .mov (.v 10), none⟩,⟨.l, .mov (.c .dead), none⟩])))
(.region [⟨.l, .bin .add (.v 19) (.c (.int .i64 1)), none⟩,⟨.v 19, .mov (.l 0), none⟩]))))
def f_scope_Check : PFunc := ⟨1, 20,
(.seq (.region [⟨.v 1, .boxloc 2 (.v 0), none⟩,⟨.v 2, .h (.newobj [.int .i64 0, .int .i64 0]), none⟩,⟨.v 3, .h (.newobj [.int .i64 0]), none⟩])
(.seq (.seq (.region [⟨.l, .load 2 true (.v 1) false, none⟩,⟨.l, .pcall 302 [(.l 0)], none⟩,⟨.l, .mov (.l 1), none⟩,⟨.l, .extract 0 (.l 2), none⟩,⟨.l, .extract 1 (.l 2), none⟩,⟨.v 4, .newloc [.int .i64 0, .int .i64 0], none⟩,⟨.n, .store 2 true (.v 4) (.l 3), none⟩,⟨.v 5, .take (.l 4), none⟩])
(.branch [⟨.l, .mov (.v 5), none⟩,⟨.l, .bin .neq (.l 0) (.c (.int .i64 0)), none⟩] (.l 1)
(.seq (.region [⟨.l, .load 2 true (.v 4) false, none⟩,⟨.l, .mov (.v 5), none⟩,⟨.n, .h (.store 2 true (.v 2) (.l 0)), none⟩,⟨.n, .h (.store 1 false (.v 3) (.l 1)), none⟩])
.ret)
.skip))
(.guarded 303 [(.v 2), (.v 3)]
(.seq (.region [⟨.l, .load 2 true (.v 1) false, none⟩,⟨.l, .build [.int .i64 0, .int .i64 0] [(0, 1, (.c (.int .i64 (-1)))), (1, 1, (.c (.int .i64 (-1))))], none⟩,⟨.l, .h (.mkmap), none⟩,⟨.l, .build [.list true [], .list true [], .int .i64 0, .int .i64 0, .map none] [(0, 2, (.l 0)), (2, 2, (.l 1)), (4, 1, (.l 2))], none⟩,⟨.v 11, .h (.boxobj 5 (.l 3)), none⟩,⟨.v 6, .take (.v 11), none⟩])
(.seq (.seq (.region [⟨.l, .faddr 0 (.v 1), none⟩,⟨.v 12, .load 1 false (.l 0) false, none⟩,⟨.v 13, .len false (.v 12), none⟩,⟨.v 14, .mov (.c (.int .i64 0)), none⟩])
(.block 0 f_scope_Check_l1))
(.seq (.seq (.region [⟨.l, .faddr 1 (.v 1), none⟩,⟨.l, .load 1 false (.l 0) false, none⟩,⟨.v 18, .len false (.l 1), none⟩,⟨.v 19, .mov (.c (.int .i64 0)), none⟩])
(.block 4 f_scope_Check_l2))
(.seq (.region [⟨.l, .build [.int .i64 0, .int .i64 0] [], none⟩,⟨.n, .h (.store 2 true (.v 2) (.l 0)), none⟩,⟨.n, .h (.store 1 false (.v 3) (.c (.int .i64 0))), none⟩])
.ret))))))),
[.cell 2 2 true, .cell 3 1 false], false, none, none⟩
def f_shape_Check_l0 : PC := (.loop (.seq (.branch [⟨.l, .bin .lss (.v 11) (.v 10), none⟩] (.l 0)
.skip
(.exit 0))
(.seq (.block 1 (.seq (.region [⟨.l, .iaddrS 2 (.v 9) (.v 11), none⟩,⟨.l, .h (.loadc 2 true (.l 0)), none⟩,⟨.v 5, .newloc [.str [], .list true []], none⟩,⟨.n, .store 2 true (.v 5) (.l 1), none⟩])
(.bregion [⟨.l, .mov (.v 4), none⟩,⟨.l, .load 2 true (.v 5) false, none⟩,⟨.l, .h (.bcall 307 [(.l 0), (.l 1)]), none⟩])))
(.region [⟨.l, .bin .add (.v 11) (.c (.int .i64 1)), none⟩,⟨.v 11, .mov (.l 0), none⟩]))))
def f_shape_Check_l1 : PC := (.loop (.seq (.branch [⟨.l, .bin .lss (.v 14) (.v 13), none⟩] (.l 0)
.skip
(.exit 2))
(.seq (.block 3 (.seq (.region [⟨.l, .mov (.v 14), none⟩,⟨.l, .iaddrS 8 (.v 12) (.v 14), none⟩,⟨.l, .h (.loadc 8 true (.l 1)), none⟩,⟨.v 7, .newloc [.str [], .list true [], .list true [], .list true [], .list true [], .list true [], .list true [], .list true []], none⟩,⟨.v 6, .take (.l 0), none⟩,⟨.n, .store 8 true (.v 7) (.l 2), none⟩])
(.region [⟨.l, .mov (.v 4), none⟩,⟨.l, .mov (.v 6), none⟩,⟨.l, .load 8 true (.v 7) false, none⟩,⟨.l, .mov (.c .dead), none⟩])))
(.region [⟨.l, .bin .add (.v 14) (.c (.int .i64 1)), none⟩,⟨.v 14, .mov (.l 0), none⟩]))))
def f_shape_Check : PFunc := ⟨1, 15,
(.seq (.region [⟨.v 1, .boxloc 2 (.v 0), none⟩,⟨.v 2, .h (.newobj [.int .i64 0, .int .i64 0]), none⟩,⟨.v 3, .h (.newobj [.int .i64 0]), none⟩])
(.guarded 305 [(.v 2), (.v 3)]
(.seq (.region [⟨.l, .faddr 0 (.v 1), none⟩,⟨.l, .load 1 false (.l 0) false, none⟩,⟨.l, .build [.int .i64 0, .int .i64 0] [(0, 1, (.c (.int .i64 (-1)))), (1, 1, (.c (.int .i64 (-1))))], none⟩,⟨.l, .build [.list true [], .int .i64 0, .int .i64 0] [(0, 1, (.l 1)), (1, 2, (.l 2))], none⟩,⟨.v 8, .h (.boxobj 3 (.l 3)), none⟩,⟨.v 4, .take (.v 8), none⟩])
(.seq (.bregion [⟨.l, .mov (.v 4), none⟩,⟨.l, .faddr 0 (.v 1), none⟩,⟨.l, .load 1 false (.l 1) false, none⟩,⟨.l, .len false (.l 2), none⟩,⟨.l, .bin .leq (.l 3) (.c (.int .i64 24)), none⟩,⟨.l, .mov (.l 4), none⟩,⟨.l, .faddr 1 (.v 1), some ((.l 5), true)⟩,⟨.l, .load 1 false (.l 6) false, some ((.l 5), true)⟩,⟨.l, .len false (.l 7), some ((.l 5), true)⟩,⟨.l, .bin .leq (.l 8) (.c (.int .i64 96)), some ((.l 5), true)⟩,⟨.l, .pick (.l 5) (.l 9) (.c (.bool false)), none⟩,⟨.l, .h (.bcall 306 [(.l 0), (.l 10), (.c (.int .i64 3))]), none⟩])
(.seq (.seq (.region [⟨.l, .faddr 0 (.v 1), none⟩,⟨.v 9, .load 1 false (.l 0) false, none⟩,⟨.v 10, .len false (.v 9), none⟩,⟨.v 11, .mov (.c (.int .i64 0)), none⟩])
(.block 0 f_shape_Check_l0))
(.seq (.seq (.region [⟨.l, .faddr 1 (.v 1), none⟩,⟨.v 12, .load 1 false (.l 0) false, none⟩,⟨.v 13, .len false (.v 12), none⟩,⟨.v 14, .mov (.c (.int .i64 0)), none⟩])
(.block 2 f_shape_Check_l1))
(.seq (.region [⟨.l, .build [.int .i64 0, .int .i64 0] [], none⟩,⟨.n, .h (.store 2 true (.v 2) (.l 0)), none⟩,⟨.n, .h (.store 1 false (.v 3) (.c (.int .i64 0))), none⟩])
.ret))))))),
[.cell 2 2 true, .cell 3 1 false], false, none, none⟩
def f_scope_Check_1 : PFunc := { params := 2, nv := 2, code := .exit 0, results := [], defer := some (pRec 1) }
def f_scope_look_add : PFunc := ⟨3, 5,
(.seq (.region [⟨.v 3, .boxloc 2 (.v 1), none⟩])
(.seq (.region [⟨.l, .mov (.v 0), none⟩,⟨.l, .h (.nilchk (.l 0)), none⟩,⟨.l, .faddr 4 (.l 1), none⟩,⟨.l, .h (.load 1 false (.l 2) false), none⟩,⟨.l, .load 2 true (.v 3) false, none⟩,⟨.l, .h (.lookup true false true [.i, .s] (.int .i64 0) (.l 3) (.l 4)), none⟩,⟨.l, .mov (.l 5), none⟩,⟨.l, .extract 0 (.l 6), none⟩,⟨.l, .extract 1 (.l 6), none⟩,⟨.l, .take (.l 7), none⟩,⟨.v 4, .take (.l 8), none⟩])
(.seq (.bregion [⟨.l, .mov (.v 0), none⟩,⟨.l, .mov (.v 4), none⟩,⟨.l, .un .not (.l 1), none⟩,⟨.l, .h (.bcall 308 [(.l 0), (.l 2), (.c (.int .i64 7))]), none⟩])
(.region [⟨.l, .mov (.v 0), none⟩,⟨.l, .h (.nilchk (.l 0)), none⟩,⟨.l, .faddr 4 (.l 1), none⟩,⟨.l, .h (.load 1 false (.l 2) false), none⟩,⟨.l, .load 2 true (.v 3) false, none⟩,⟨.l, .mov (.v 2), none⟩,⟨.n, .h (.mset true [.i, .s] (.l 3) (.l 4) (.l 5)), none⟩])))),
[], false, none, none⟩
def f_shape_Check_1 : PFunc := { params := 2, nv := 2, code := .exit 0, results := [], defer := some (pRec 2) }
def f_shape_look_must : PFunc := ⟨3, 3,
(.branch [⟨.l, .mov (.v 1), none⟩,⟨.l, .un .not (.l 0), none⟩] (.l 1)
(.raise [⟨.l, .mov (.v 0), none⟩,⟨.l, .h (.nilchk (.l 0)), none⟩,⟨.l, .faddr 1 (.l 1), none⟩,⟨.l, .h (.load 2 true (.l 2) false), none⟩,⟨.l, .mov (.v 2), none⟩,⟨.l, .build [.int .i64 0, .int .i64 0, .int .i64 0] [(0, 2, (.l 3)), (2, 1, (.l 4))], none⟩] 2 (.l 5))
.skip),
[], false, none, none⟩
def f_shape_look_enum_l0 : PC := (.loop (.seq (.branch [⟨.l, .bin .lss (.v 6) (.v 5), none⟩] (.l 0)
.skip
(.exit 0))
(.seq (.block 1 (.seq (.region [⟨.l, .iaddrS 1 (.v 4) (.v 6), none⟩,⟨.l, .h (.loadc 1 false (.l 0)), none⟩,⟨.v 3, .take (.l 1), none⟩])
(.bregion [⟨.l, .mov (.v 0), none⟩,⟨.l, .mov (.v 3), none⟩,⟨.l, .h (.bcall 309 [(.l 0), (.l 1)]), none⟩])))
(.region [⟨.l, .bin .add (.v 6) (.c (.int .i64 1)), none⟩,⟨.v 6, .mov (.l 0), none⟩]))))
def f_shape_look_enum : PFunc := ⟨2, 7,
(.seq (.region [⟨.v 2, .boxloc 2 (.v 1), none⟩])
(.seq (.bregion [⟨.l, .mov (.v 0), none⟩,⟨.l, .faddr 0 (.v 2), none⟩,⟨.l, .load 1 false (.l 1) false, none⟩,⟨.l, .h (.bcall 309 [(.l 0), (.l 2)]), none⟩])
(.seq (.bregion [⟨.l, .mov (.v 0), none⟩,⟨.l, .faddr 1 (.v 2), none⟩,⟨.l, .load 1 false (.l 1) false, none⟩,⟨.l, .len false (.l 2), none⟩,⟨.l, .bin .gtr (.l 3) (.c (.int .i64 0)), none⟩,⟨.l, .h (.bcall 306 [(.l 0), (.l 4), (.c (.int .i64 8))]), none⟩])
(.seq (.bregion [⟨.l, .mov (.v 0), none⟩,⟨.l, .faddr 1 (.v 2), none⟩,⟨.l, .load 1 false (.l 1) false, none⟩,⟨.l, .len false (.l 2), none⟩,⟨.l, .bin .leq (.l 3) (.c (.int .i64 16)), none⟩,⟨.l, .h (.bcall 306 [(.l 0), (.l 4), (.c (.int .i64 3))]), none⟩])
(.seq (.region [⟨.l, .faddr 1 (.v 2), none⟩,⟨.v 4, .load 1 false (.l 0) false, none⟩,⟨.v 5, .len false (.v 4), none⟩,⟨.v 6, .mov (.c (.int .i64 0)), none⟩])
(.block 0 f_shape_look_enum_l0)))))),
[], false, none, none⟩
def f_scope_look_must : PFunc := ⟨3, 3,
(.branch [⟨.l, .mov (.v 1), none⟩,⟨.l, .un .not (.l 0), none⟩] (.l 1)
(.raise [⟨.l, .mov (.v 0), none⟩,⟨.l, .h (.nilchk (.l 0)), none⟩,⟨.l, .faddr 2 (.l 1), none⟩,⟨.l, .h (.load 2 true (.l 2) false), none⟩,⟨.l, .mov (.v 2), none⟩,⟨.l, .build [.int .i64 0, .int .i64 0, .int .i64 0] [(0, 2, (.l 3)), (2, 1, (.l 4))], none⟩] 1 (.l 5))
.skip),
[], false, none, none⟩
def f_shape_look_ident : PFunc := ⟨2, 2,
(.bregion [⟨.l, .mov (.v 0), none⟩,⟨.l, .mov (.v 1), none⟩,⟨.l, .pcall 37 [(.l 1)], none⟩,⟨.l, .h (.bcall 306 [(.l 0), (.l 2), (.c (.int .i64 6))]), none⟩]),
[], false, none, none⟩
def Lc : Nat → Option PFunc
 | 3 => some PI.Tr.f_law43_light
 | 5 => some PI.Tr.f_law43_awake
 | 6 => some PI.Tr.f_trace_Text
 | 7 => some PI.Tr.f_trace_Check
 | 8 => some PI.Tr.f_trace_Parse
 | 9 => some PI.Tr.f_ref43_Same
 | 10 => some PI.Tr.f_ref36_Lines
 | 11 => some PI.Tr.f_trace_Col
 | 13 => some PI.Tr.f_trace_Rows
 | 15 => some PI.Tr.f_law43_cells
 | 18 => some PI.Tr.f_law43_sample
 | 19 => some PI.Tr.f_ref04_Same
 | 20 => some PI.Tr.f_value_Name
 | 21 => some PI.Tr.f_trace_Text_1
 | 22 => some PI.Tr.f_trace_word
 | 23 => some PI.Tr.f_strings_Builder_String
 | 24 => some PI.Tr.f_trace_columns
 | 25 => some PI.Tr.f_trace_cell
 | 26 => some PI.Tr.f_strings_Cut
 | 27 => some PI.Tr.f_trace_words
 | 28 => some PI.Tr.f_trace_parser_names
 | 29 => some PI.Tr.f_trace_parser_types
 | 30 => some PI.Tr.f_trace_parser_row
 | 32 => some PI.Tr.f_ref03_Ident
 | 33 => some PI.Tr.f_value_enum
 | 34 => some PI.Tr.f_strings_Builder_WriteString
 | 35 => some PI.Tr.f_strings_Join
 | 36 => some PI.Tr.f_value_Text
 | 37 => some PI.Tr.f_lex_Ident
 | 38 => some PI.Tr.f_value_Has
 | 39 => some PI.Tr.f_internal_stringslite_Cut
 | 40 => some PI.Tr.f_value_Type
 | 41 => some PI.Tr.f_value_Parse
 | 42 => some PI.Tr.f_ref03_Letter
 | 43 => some PI.Tr.f_ref03_inner
 | 44 => some PI.Tr.f_ref03_Keyword
 | 45 => some PI.Tr.f_value_valid
 | 46 => some PI.Tr.f_strconv_FormatBool
 | 47 => some PI.Tr.f_strconv_Itoa
 | 48 => some PI.Tr.f_lex_letter
 | 49 => some PI.Tr.f_lex_Keyword
 | 50 => some PI.Tr.f_lex_inner
 | 51 => some PI.Tr.f_word_In
 | 52 => some PI.Tr.f_value_Size
 | 53 => some PI.Tr.f_internal_stringslite_Index
 | 54 => some PI.Tr.f_strconv_Atoi
 | 55 => some PI.Tr.f_ref03_digit
 | 56 => some PI.Tr.f_ref03_keywords
 | 57 => some PI.Tr.f_internal_strconv_FormatBool
 | 58 => some PI.Tr.f_lex_digit
 | 59 => some PI.Tr.f_internal_stringslite_IndexByte
 | 60 => some PI.Tr.f_internal_bytealg_Cutover
 | 61 => some PI.Tr.f_internal_bytealg_IndexRabinKarp_string
 | 62 => some PI.Tr.f_internal_bytealg_hashStr_string
 | 63 => some PI.Tr.f_law43_TraceTexts
 | 64 => some PI.Tr.f_law43_TraceParses
 | 65 => some PI.Tr.f_ref43_Text
 | 66 => some PI.Tr.f_ref43_Check
 | 67 => some PI.Tr.f_ref43_Parse
 | 68 => some PI.Tr.f_ref05_Name
 | 69 => some PI.Tr.f_ref43_line
 | 70 => some PI.Tr.f_ref05_Text
 | 71 => some PI.Tr.f_ref43_column
 | 72 => some PI.Tr.f_ref43_cell
 | 73 => some PI.Tr.f_ref36_Words
 | 74 => some PI.Tr.f_ref43_names
 | 75 => some PI.Tr.f_ref05_Type
 | 76 => some PI.Tr.f_ref43_row
 | 77 => some PI.Tr.f_ref05_known
 | 78 => some PI.Tr.f_ref05_Has
 | 79 => some PI.Tr.f_ref05_Decimal
 | 80 => some PI.Tr.f_ref05_Parse
 | 81 => some PI.Tr.f_ref05_Size
 | 82 => some PI.Tr.f_ref05_number
 | 204 => some f_law44_huge
 | 205 => some f_law44_awake
 | 206 => some f_compare_Same
 | 209 => some f_compare_Common
 | 211 => some f_compare_First
 | 213 => some f_compare_Project
 | 215 => some f_compare_Append
 | 217 => some f_compare_Prefix
 | 220 => some f_ref10_Weigh
 | 221 => some f_law44_column
 | 222 => some f_compare_same
 | 223 => some f_compare_equal
 | 225 => some f_compare_columns
 | 226 => some f_slices_Contains_string
 | 229 => some f_compare_cell
 | 231 => some f_compare_copied
 | 232 => some f_slices_Clone_api_Cell
 | 234 => some f_ref10_weighDecls
 | 235 => some f_ref10_weighEqs
 | 236 => some f_ref10_weighExprs
 | 237 => some f_ref10_weighAutos
 | 238 => some f_slices_EqualFunc_api_Decl
 | 239 => some f_compare_same_1
 | 240 => some f_slices_Equal_api_On
 | 241 => some f_slices_EqualFunc_api_Cell
 | 242 => some f_compare_equal_1
 | 243 => some f_slices_Equal_api_Cell
 | 245 => some f_slices_Index_string
 | 246 => some f_slices_Clone_api_On
 | 247 => some f_ref06_Weigh
 | 248 => some f_ref10_weighTrans
 | 300 => some f_law44_CompareTexts
 | 301 => some f_scope_Check
 | 302 => some f_shape_Check
 | 303 => some f_scope_Check_1
 | 304 => some f_scope_look_add
 | 305 => some f_shape_Check_1
 | 306 => some f_shape_look_must
 | 307 => some f_shape_look_enum
 | 308 => some f_scope_look_must
 | 309 => some f_shape_look_ident
 | _ => none
def LX : Nat → Option PFunc
 | 3 => some PI.Tr.f_law43_light
 | 5 => some PI.Tr.f_law43_awake
 | 6 => some PI.Tr.f_trace_Text
 | 7 => some PI.Tr.f_trace_Check
 | 8 => some PI.Tr.f_trace_Parse
 | 9 => some PI.Tr.f_ref43_Same
 | 10 => some PI.Tr.f_ref36_Lines
 | 11 => some PI.Tr.f_trace_Col
 | 13 => some PI.Tr.f_trace_Rows
 | 15 => some PI.Tr.f_law43_cells
 | 18 => some PI.Tr.f_law43_sample
 | 19 => some PI.Tr.f_ref04_Same
 | 20 => some PI.Tr.f_value_Name
 | 21 => some PI.Tr.f_trace_Text_1
 | 22 => some PI.Tr.f_trace_word
 | 23 => some PI.Tr.f_strings_Builder_String
 | 24 => some PI.Tr.f_trace_columns
 | 25 => some PI.Tr.f_trace_cell
 | 26 => some PI.Tr.f_strings_Cut
 | 27 => some PI.Tr.f_trace_words
 | 28 => some PI.Tr.f_trace_parser_names
 | 29 => some PI.Tr.f_trace_parser_types
 | 30 => some PI.Tr.f_trace_parser_row
 | 32 => some PI.Tr.f_ref03_Ident
 | 33 => some PI.Tr.f_value_enum
 | 34 => some PI.Tr.f_strings_Builder_WriteString
 | 35 => some PI.Tr.f_strings_Join
 | 36 => some PI.Tr.f_value_Text
 | 37 => some PI.Tr.f_lex_Ident
 | 38 => some PI.Tr.f_value_Has
 | 39 => some PI.Tr.f_internal_stringslite_Cut
 | 40 => some PI.Tr.f_value_Type
 | 41 => some PI.Tr.f_value_Parse
 | 42 => some PI.Tr.f_ref03_Letter
 | 43 => some PI.Tr.f_ref03_inner
 | 44 => some PI.Tr.f_ref03_Keyword
 | 45 => some PI.Tr.f_value_valid
 | 46 => some PI.Tr.f_strconv_FormatBool
 | 47 => some PI.Tr.f_strconv_Itoa
 | 48 => some PI.Tr.f_lex_letter
 | 49 => some PI.Tr.f_lex_Keyword
 | 50 => some PI.Tr.f_lex_inner
 | 51 => some PI.Tr.f_word_In
 | 52 => some PI.Tr.f_value_Size
 | 53 => some PI.Tr.f_internal_stringslite_Index
 | 54 => some PI.Tr.f_strconv_Atoi
 | 55 => some PI.Tr.f_ref03_digit
 | 56 => some PI.Tr.f_ref03_keywords
 | 57 => some PI.Tr.f_internal_strconv_FormatBool
 | 58 => some PI.Tr.f_lex_digit
 | 59 => some PI.Tr.f_internal_stringslite_IndexByte
 | 60 => some PI.Tr.f_internal_bytealg_Cutover
 | 61 => some PI.Tr.f_internal_bytealg_IndexRabinKarp_string
 | 62 => some PI.Tr.f_internal_bytealg_hashStr_string
 | 63 => some PI.Tr.f_law43_TraceTexts
 | 64 => some PI.Tr.f_law43_TraceParses
 | 65 => some PI.Tr.f_ref43_Text
 | 66 => some PI.Tr.f_ref43_Check
 | 67 => some PI.Tr.f_ref43_Parse
 | 68 => some PI.Tr.f_ref05_Name
 | 69 => some PI.Tr.f_ref43_line
 | 70 => some PI.Tr.f_ref05_Text
 | 71 => some PI.Tr.f_ref43_column
 | 72 => some PI.Tr.f_ref43_cell
 | 73 => some PI.Tr.f_ref36_Words
 | 74 => some PI.Tr.f_ref43_names
 | 75 => some PI.Tr.f_ref05_Type
 | 76 => some PI.Tr.f_ref43_row
 | 77 => some PI.Tr.f_ref05_known
 | 78 => some PI.Tr.f_ref05_Has
 | 79 => some PI.Tr.f_ref05_Decimal
 | 80 => some PI.Tr.f_ref05_Parse
 | 81 => some PI.Tr.f_ref05_Size
 | 82 => some PI.Tr.f_ref05_number
 | 204 => some f_law44_huge
 | 205 => some f_law44_awake
 | 206 => some f_compare_Same
 | 209 => some f_compare_Common
 | 211 => some f_compare_First
 | 213 => some f_compare_Project
 | 215 => some f_compare_Append
 | 217 => some f_compare_Prefix
 | 220 => some f_ref10_Weigh
 | 221 => some f_law44_column
 | 222 => some f_compare_same
 | 223 => some f_compare_equal
 | 225 => some f_compare_columns
 | 226 => some f_slices_Contains_string
 | 229 => some f_compare_cell
 | 231 => some f_compare_copied
 | 232 => some f_slices_Clone_api_Cell
 | 234 => some f_ref10_weighDecls
 | 235 => some f_ref10_weighEqs
 | 236 => some f_ref10_weighExprs
 | 237 => some f_ref10_weighAutos
 | 238 => some f_slices_EqualFunc_api_Decl
 | 239 => some f_compare_same_1
 | 240 => some f_slices_Equal_api_On
 | 241 => some f_slices_EqualFunc_api_Cell
 | 242 => some f_compare_equal_1
 | 243 => some f_slices_Equal_api_Cell
 | 245 => some f_slices_Index_string
 | 246 => some f_slices_Clone_api_On
 | 247 => some f_ref06_Weigh
 | 248 => some f_ref10_weighTrans
 | 300 => some f_law44_CompareTexts
 | 301 => some f_scope_Check
 | 302 => some f_shape_Check
 | 303 => some f_scope_Check_1
 | 304 => some f_scope_look_add
 | 305 => some f_shape_Check_1
 | 306 => some f_shape_look_must
 | 307 => some f_shape_look_enum
 | 308 => some f_scope_look_must
 | 309 => some f_shape_look_ident
 | _ => none
end PI.Ct
