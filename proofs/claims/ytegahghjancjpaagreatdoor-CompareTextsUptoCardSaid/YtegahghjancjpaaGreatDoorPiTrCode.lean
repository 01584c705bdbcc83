import Derived.Test.YtegahghjancjpaaGreatDoorPiPrim
namespace PI.Tr
open Go (IntKind BinOp UnOp)
def f_law43_light_l0 : PC := (.loop (.seq (.branch [⟨.l, .mov (.v 4), none⟩,⟨.l, .faddr 1 (.v 1), none⟩,⟨.l, .load 1 false (.l 1) false, none⟩,⟨.l, .len false (.l 2), none⟩,⟨.l, .bin .lss (.l 0) (.l 3), none⟩,⟨.l, .mov (.l 4), none⟩,⟨.l, .mov (.v 3), some ((.l 5), true)⟩,⟨.l, .bin .leq (.l 6) (.c (.int .i64 20000)), some ((.l 5), true)⟩,⟨.l, .pick (.l 5) (.l 7) (.c (.bool false)), none⟩] (.l 8)
.skip
(.exit 0))
(.seq (.block 1 (.region [⟨.l, .mov (.v 3), none⟩,⟨.l, .faddr 1 (.v 1), none⟩,⟨.l, .load 1 false (.l 1) false, none⟩,⟨.l, .mov (.v 4), none⟩,⟨.l, .iaddrS 1 (.l 2) (.l 3), none⟩,⟨.l, .h (.loadc 1 false (.l 4)), none⟩,⟨.l, .len false (.l 5), none⟩,⟨.l, .bin .add (.l 0) (.l 6), none⟩,⟨.v 3, .take (.l 7), none⟩]))
(.region [⟨.l, .mov (.v 4), none⟩,⟨.l, .bin .add (.l 0) (.c (.int .i64 1)), none⟩,⟨.v 4, .take (.l 1), none⟩]))))
def f_law43_light : PFunc := ⟨1, 5,
(.seq (.region [⟨.v 1, .boxloc 2 (.v 0), none⟩,⟨.v 2, .take (.c (.bool false)), none⟩])
(.seq (.branch [⟨.l, .faddr 0 (.v 1), none⟩,⟨.l, .load 1 false (.l 0) false, none⟩,⟨.l, .len false (.l 1), none⟩,⟨.l, .bin .gtr (.l 2) (.c (.int .i64 400)), none⟩,⟨.l, .mov (.l 3), none⟩,⟨.l, .faddr 1 (.v 1), some ((.l 4), false)⟩,⟨.l, .load 1 false (.l 5) false, some ((.l 4), false)⟩,⟨.l, .len false (.l 6), some ((.l 4), false)⟩,⟨.l, .bin .gtr (.l 7) (.c (.int .i64 4200)), some ((.l 4), false)⟩,⟨.l, .pick (.l 4) (.c (.bool true)) (.l 8), none⟩] (.l 9)
(.seq (.region [⟨.v 2, .take (.c (.bool false)), none⟩])
.ret)
.skip)
(.seq (.region [⟨.v 3, .take (.c (.int .i64 0)), none⟩])
(.seq (.seq (.region [⟨.v 4, .take (.c (.int .i64 0)), none⟩])
(.block 0 f_law43_light_l0))
(.seq (.region [⟨.l, .mov (.v 3), none⟩,⟨.l, .bin .leq (.l 0) (.c (.int .i64 20000)), none⟩,⟨.v 2, .take (.l 1), none⟩])
.ret))))),
[.var 2], false, none, none⟩
def f_law43_awake : PFunc := ⟨0, 13,
(.seq (.region [⟨.v 0, .take (.c (.bool false)), none⟩])
(.seq (.region [⟨.l, .pcall 18 [], none⟩,⟨.l, .pcall 6 [(.c (.list true [])), (.l 0)], none⟩,⟨.l, .mov (.l 1), none⟩,⟨.l, .extract 0 (.l 2), none⟩,⟨.l, .extract 1 (.l 2), none⟩,⟨.v 1, .take (.l 3), none⟩,⟨.v 2, .take (.l 4), none⟩])
(.seq (.region [⟨.l, .pcall 8 [(.c (.list true [])), (.c (.str [97, 10, 105, 110, 116, 10, 49, 32, 50, 10]))], none⟩,⟨.l, .mov (.l 0), none⟩,⟨.l, .extract 0 (.l 1), none⟩,⟨.l, .extract 1 (.l 1), none⟩,⟨.l, .extract 2 (.l 1), none⟩,⟨.v 3, .newloc [.list true [], .list true []], none⟩,⟨.n, .store 2 true (.v 3) (.l 2), none⟩,⟨.v 4, .take (.l 3), none⟩,⟨.v 5, .take (.l 4), none⟩])
(.seq (.region [⟨.l, .pcall 18 [], none⟩,⟨.l, .pcall 11 [(.l 0), (.c (.str [110]))], none⟩,⟨.l, .mov (.l 1), none⟩,⟨.l, .extract 0 (.l 2), none⟩,⟨.l, .extract 1 (.l 2), none⟩,⟨.v 6, .take (.l 3), none⟩,⟨.v 7, .take (.l 4), none⟩])
(.seq (.region [⟨.l, .pcall 8 [(.c (.list true [])), (.c (.str [97, 10]))], none⟩,⟨.l, .mov (.l 0), none⟩,⟨.l, .extract 0 (.l 1), none⟩,⟨.l, .extract 1 (.l 1), none⟩,⟨.l, .extract 2 (.l 1), none⟩,⟨.v 8, .newloc [.list true [], .list true []], none⟩,⟨.n, .store 2 true (.v 8) (.l 2), none⟩,⟨.v 9, .take (.l 3), none⟩,⟨.v 10, .take (.l 4), none⟩])
(.seq (.region [⟨.l, .build [.str [], .int .i64 0, .list true []] [(0, 1, (.c (.str [97]))), (1, 1, (.c (.int .i64 2)))], none⟩,⟨.l, .mkslice 3 (.agg [.str [], .int .i64 0, .list true []]) 1 [(0, (.l 0))], none⟩,⟨.l, .build [.int .i64 0, .int .i64 0] [(0, 1, (.c (.int .i64 1))), (1, 1, (.c (.int .i64 1)))], none⟩,⟨.l, .mkslice 2 (.agg [.int .i64 0, .int .i64 0]) 1 [(0, (.l 2))], none⟩,⟨.l, .build [.int .i64 0, .int .i64 0] [(0, 1, (.c (.int .i64 1))), (1, 1, (.c (.int .i64 2)))], none⟩,⟨.l, .mkslice 2 (.agg [.int .i64 0, .int .i64 0]) 1 [(0, (.l 4))], none⟩,⟨.l, .mkslice 1 (.list true []) 2 [(0, (.l 3)), (1, (.l 5))], none⟩,⟨.l, .build [.list true [], .list true []] [(0, 1, (.l 1)), (1, 1, (.l 6))], none⟩,⟨.l, .mkslice 1 (.str []) 2 [(0, (.c (.str [97]))), (1, (.c (.str [97])))], none⟩,⟨.l, .pcall 13 [(.l 7), (.l 8)], none⟩,⟨.l, .mov (.l 9), none⟩,⟨.l, .extract 0 (.l 10), none⟩,⟨.l, .extract 1 (.l 10), none⟩,⟨.v 11, .take (.l 11), none⟩,⟨.v 12, .take (.l 12), none⟩])
(.seq (.region [⟨.l, .mov (.v 2), none⟩,⟨.l, .bin .eql (.l 0) (.c (.int .i64 0)), none⟩,⟨.l, .mov (.l 1), none⟩,⟨.l, .mov (.v 1), some ((.l 2), true)⟩,⟨.l, .bin .eql (.l 3) (.c (.str [114, 32, 110, 10, 98, 111, 111, 108, 32, 105, 110, 116, 10, 116, 114, 117, 101, 32, 45, 49, 10, 45, 32, 63, 10])), some ((.l 2), true)⟩,⟨.l, .pick (.l 2) (.l 4) (.c (.bool false)), none⟩,⟨.l, .mov (.l 5), none⟩,⟨.l, .mov (.v 4), some ((.l 6), true)⟩,⟨.l, .bin .eql (.l 7) (.c (.int .i64 3)), some ((.l 6), true)⟩,⟨.l, .pick (.l 6) (.l 8) (.c (.bool false)), none⟩,⟨.l, .mov (.l 9), none⟩,⟨.l, .mov (.v 5), some ((.l 10), true)⟩,⟨.l, .bin .eql (.l 11) (.c (.int .i64 9)), some ((.l 10), true)⟩,⟨.l, .pick (.l 10) (.l 12) (.c (.bool false)), none⟩,⟨.l, .mov (.l 13), none⟩,⟨.l, .mov (.v 9), some ((.l 14), true)⟩,⟨.l, .bin .eql (.l 15) (.c (.int .i64 2)), some ((.l 14), true)⟩,⟨.l, .pick (.l 14) (.l 16) (.c (.bool false)), none⟩,⟨.l, .mov (.l 17), none⟩,⟨.l, .mov (.v 10), some ((.l 18), true)⟩,⟨.l, .bin .eql (.l 19) (.c (.int .i64 4)), some ((.l 18), true)⟩,⟨.l, .pick (.l 18) (.l 20) (.c (.bool false)), none⟩,⟨.l, .mov (.l 21), none⟩,⟨.l, .mov (.v 7), some ((.l 22), true)⟩,⟨.l, .pick (.l 22) (.l 23) (.c (.bool false)), none⟩,⟨.l, .mov (.l 24), none⟩,⟨.l, .mov (.v 6), some ((.l 25), true)⟩,⟨.l, .build [.int .i64 0, .int .i64 0] [(0, 1, (.c (.int .i64 1))), (1, 1, (.c (.int .i64 (-1))))], some ((.l 25), true)⟩,⟨.l, .build [.int .i64 0, .int .i64 0] [(0, 1, (.c (.int .i64 2)))], some ((.l 25), true)⟩,⟨.l, .mkslice 2 (.agg [.int .i64 0, .int .i64 0]) 2 [(0, (.l 27)), (1, (.l 28))], some ((.l 25), true)⟩,⟨.l, .pcall 15 [(.l 26), (.l 29)], some ((.l 25), true)⟩,⟨.l, .pick (.l 25) (.l 30) (.c (.bool false)), none⟩,⟨.l, .mov (.l 31), none⟩,⟨.l, .mov (.v 12), some ((.l 32), true)⟩,⟨.l, .bin .eql (.l 33) (.c (.int .i64 0)), some ((.l 32), true)⟩,⟨.l, .pick (.l 32) (.l 34) (.c (.bool false)), none⟩,⟨.l, .mov (.l 35), none⟩,⟨.l, .mov (.v 11), some ((.l 36), true)⟩,⟨.l, .len false (.l 37), some ((.l 36), true)⟩,⟨.l, .bin .eql (.l 38) (.c (.int .i64 2)), some ((.l 36), true)⟩,⟨.l, .pick (.l 36) (.l 39) (.c (.bool false)), none⟩,⟨.l, .mov (.l 40), none⟩,⟨.l, .mov (.v 11), some ((.l 41), true)⟩,⟨.l, .iaddrS 1 (.l 42) (.c (.int .i64 1)), some ((.l 41), true)⟩,⟨.l, .h (.loadc 1 false (.l 43)), some ((.l 41), true)⟩,⟨.l, .mkslice 1 (.int .i64 0) 2 [(0, (.c (.int .i64 2))), (1, (.c (.int .i64 2)))], some ((.l 41), true)⟩,⟨.l, .pcall 19 [(.l 44), (.l 45)], some ((.l 41), true)⟩,⟨.l, .pick (.l 41) (.l 46) (.c (.bool false)), none⟩,⟨.v 0, .take (.l 47), none⟩])
.ret))))))),
[.var 0], false, none, none⟩
def f_trace_Text_l0 : PC := (.loop (.seq (.branch [⟨.l, .bin .lss (.v 18) (.v 17), none⟩] (.l 0)
.skip
(.exit 0))
(.seq (.block 1 (.seq (.region [⟨.l, .iaddrS 3 (.v 16) (.v 18), none⟩,⟨.l, .h (.loadc 3 true (.l 0)), none⟩,⟨.v 8, .newloc [.str [], .int .i64 0, .list true []], none⟩,⟨.n, .store 3 true (.v 8) (.l 1), none⟩])
(.seq (.region [⟨.l, .mov (.v 0), none⟩,⟨.l, .faddr 1 (.v 8), none⟩,⟨.l, .load 1 false (.l 1) false, none⟩,⟨.l, .pcall 20 [(.l 0), (.l 2)], none⟩,⟨.l, .mov (.l 3), none⟩,⟨.l, .extract 0 (.l 4), none⟩,⟨.l, .extract 1 (.l 4), none⟩,⟨.v 9, .take (.l 5), none⟩,⟨.l, .take (.l 6), none⟩])
(.region [⟨.l, .take (.v 6), none⟩,⟨.l, .faddr 0 (.v 8), none⟩,⟨.l, .load 1 false (.l 1) false, none⟩,⟨.l, .mkslice 1 (.str []) 1 [(0, (.l 2))], none⟩,⟨.l, .append 1 16 (.l 0) (.l 3), none⟩,⟨.l, .take (.v 7), none⟩,⟨.l, .mov (.v 9), none⟩,⟨.l, .mkslice 1 (.str []) 1 [(0, (.l 6))], none⟩,⟨.l, .append 1 16 (.l 5) (.l 7), none⟩,⟨.v 6, .take (.l 4), none⟩,⟨.v 7, .take (.l 8), none⟩]))))
(.region [⟨.l, .bin .add (.v 18) (.c (.int .i64 1)), none⟩,⟨.v 18, .mov (.l 0), none⟩]))))
def f_trace_Text_l1 : PC := (.loop (.seq (.branch [⟨.l, .bin .lss (.v 24) (.v 23), none⟩] (.l 0)
.skip
(.exit 4))
(.seq (.block 5 (.seq (.region [⟨.l, .mov (.v 24), none⟩,⟨.l, .iaddrS 2 (.v 22) (.v 24), none⟩,⟨.l, .h (.loadc 2 true (.l 1)), none⟩,⟨.v 15, .newloc [.int .i64 0, .int .i64 0], none⟩,⟨.v 14, .take (.l 0), none⟩,⟨.n, .store 2 true (.v 15) (.l 2), none⟩])
(.region [⟨.l, .take (.v 13), none⟩,⟨.l, .mov (.v 0), none⟩,⟨.l, .faddr 0 (.v 2), none⟩,⟨.l, .load 1 false (.l 2) false, none⟩,⟨.l, .mov (.v 14), none⟩,⟨.l, .iaddrS 3 (.l 3) (.l 4), none⟩,⟨.l, .faddr 1 (.l 5), none⟩,⟨.l, .h (.loadc 1 false (.l 6)), none⟩,⟨.l, .load 2 true (.v 15) false, none⟩,⟨.l, .pcall 22 [(.l 1), (.l 7), (.l 8)], none⟩,⟨.l, .mkslice 1 (.str []) 1 [(0, (.l 9))], none⟩,⟨.l, .append 1 16 (.l 0) (.l 10), none⟩,⟨.v 13, .take (.l 11), none⟩])))
(.region [⟨.l, .bin .add (.v 24) (.c (.int .i64 1)), none⟩,⟨.v 24, .mov (.l 0), none⟩]))))
def f_trace_Text_l2 : PC := (.loop (.seq (.branch [⟨.l, .bin .lss (.v 21) (.v 20), none⟩] (.l 0)
.skip
(.exit 2))
(.seq (.block 3 (.seq (.region [⟨.l, .iaddrS 1 (.v 19) (.v 21), none⟩,⟨.l, .h (.loadc 1 false (.l 0)), none⟩,⟨.v 12, .take (.l 1), none⟩])
(.seq (.region [⟨.v 13, .take (.c (.list true [])), none⟩])
(.seq (.seq (.region [⟨.v 22, .mov (.v 12), none⟩,⟨.v 23, .len false (.v 22), none⟩,⟨.v 24, .mov (.c (.int .i64 0)), none⟩])
(.block 4 f_trace_Text_l1))
(.region [⟨.l, .mov (.v 11), none⟩,⟨.l, .mov (.v 13), none⟩,⟨.l, .h (.callv (.l 0) [(.l 1)]), none⟩])))))
(.region [⟨.l, .bin .add (.v 21) (.c (.int .i64 1)), none⟩,⟨.v 21, .mov (.l 0), none⟩]))))
def f_trace_Text : PFunc := ⟨2, 25,
(.seq (.region [⟨.v 2, .boxloc 2 (.v 1), none⟩,⟨.v 3, .take (.c (.str [])), none⟩,⟨.v 4, .take (.c (.int .i64 0)), none⟩])
(.seq (.seq (.region [⟨.l, .mov (.v 0), none⟩,⟨.l, .load 2 true (.v 2) false, none⟩,⟨.l, .pcall 7 [(.l 0), (.l 1)], none⟩,⟨.v 5, .take (.l 2), none⟩])
(.branch [⟨.l, .mov (.v 5), none⟩,⟨.l, .bin .neq (.l 0) (.c (.int .i64 0)), none⟩] (.l 1)
(.seq (.region [⟨.l, .mov (.v 5), none⟩,⟨.v 3, .take (.c (.str [])), none⟩,⟨.v 4, .take (.l 0), none⟩])
.ret)
.skip))
(.seq (.region [⟨.v 6, .take (.c (.list true [])), none⟩,⟨.v 7, .take (.c (.list true [])), none⟩])
(.seq (.seq (.region [⟨.l, .faddr 0 (.v 2), none⟩,⟨.v 16, .load 1 false (.l 0) false, none⟩,⟨.v 17, .len false (.v 16), none⟩,⟨.v 18, .mov (.c (.int .i64 0)), none⟩])
(.block 0 f_trace_Text_l0))
(.seq (.region [⟨.v 10, .h (.newbld), none⟩])
(.seq (.region [⟨.l, .h (.mkfunc 21 [] [(.v 10)]), none⟩,⟨.v 11, .take (.l 0), none⟩])
(.seq (.region [⟨.l, .mov (.v 11), none⟩,⟨.l, .mov (.v 6), none⟩,⟨.l, .h (.callv (.l 0) [(.l 1)]), none⟩])
(.seq (.region [⟨.l, .mov (.v 11), none⟩,⟨.l, .mov (.v 7), none⟩,⟨.l, .h (.callv (.l 0) [(.l 1)]), none⟩])
(.seq (.seq (.region [⟨.l, .faddr 1 (.v 2), none⟩,⟨.v 19, .load 1 false (.l 0) false, none⟩,⟨.v 20, .len false (.v 19), none⟩,⟨.v 21, .mov (.c (.int .i64 0)), none⟩])
(.block 2 f_trace_Text_l2))
(.seq (.region [⟨.l, .h (.call 23 [(.v 10)]), none⟩,⟨.v 3, .take (.l 0), none⟩,⟨.v 4, .take (.c (.int .i64 0)), none⟩])
.ret)))))))))),
[.var 3, .var 4], false, none, none⟩
def f_trace_Check_l0 : PC := (.loop (.seq (.branch [⟨.l, .bin .lss (.v 14) (.v 13), none⟩] (.l 0)
.skip
(.exit 2))
(.seq (.block 3 (.seq (.region [⟨.l, .mov (.v 14), none⟩,⟨.l, .iaddrS 2 (.v 12) (.v 14), none⟩,⟨.l, .h (.loadc 2 true (.l 1)), none⟩,⟨.v 7, .newloc [.int .i64 0, .int .i64 0], none⟩,⟨.v 6, .take (.l 0), none⟩,⟨.n, .store 2 true (.v 7) (.l 2), none⟩])
(.seq (.region [⟨.l, .mov (.v 0), none⟩,⟨.l, .faddr 0 (.v 2), none⟩,⟨.l, .load 1 false (.l 1) false, none⟩,⟨.l, .mov (.v 6), none⟩,⟨.l, .iaddrS 3 (.l 2) (.l 3), none⟩,⟨.l, .faddr 1 (.l 4), none⟩,⟨.l, .h (.loadc 1 false (.l 5)), none⟩,⟨.l, .load 2 true (.v 7) false, none⟩,⟨.l, .pcall 25 [(.l 0), (.l 6), (.l 7)], none⟩,⟨.v 8, .take (.l 8), none⟩])
(.branch [⟨.l, .mov (.v 8), none⟩,⟨.l, .bin .neq (.l 0) (.c (.int .i64 0)), none⟩] (.l 1)
(.seq (.region [⟨.l, .mov (.v 8), none⟩,⟨.v 3, .take (.l 0), none⟩])
.ret)
.skip))))
(.region [⟨.l, .bin .add (.v 14) (.c (.int .i64 1)), none⟩,⟨.v 14, .mov (.l 0), none⟩]))))
def f_trace_Check_l1 : PC := (.loop (.seq (.branch [⟨.l, .bin .lss (.v 11) (.v 10), none⟩] (.l 0)
.skip
(.exit 0))
(.seq (.block 1 (.seq (.region [⟨.l, .iaddrS 1 (.v 9) (.v 11), none⟩,⟨.l, .h (.loadc 1 false (.l 0)), none⟩,⟨.v 5, .take (.l 1), none⟩])
(.seq (.branch [⟨.l, .mov (.v 5), none⟩,⟨.l, .len false (.l 0), none⟩,⟨.l, .faddr 0 (.v 2), none⟩,⟨.l, .load 1 false (.l 2) false, none⟩,⟨.l, .len false (.l 3), none⟩,⟨.l, .bin .neq (.l 1) (.l 4), none⟩] (.l 5)
(.seq (.region [⟨.v 3, .take (.c (.int .i64 9)), none⟩])
.ret)
.skip)
(.seq (.region [⟨.v 12, .mov (.v 5), none⟩,⟨.v 13, .len false (.v 12), none⟩,⟨.v 14, .mov (.c (.int .i64 0)), none⟩])
(.block 2 f_trace_Check_l0)))))
(.region [⟨.l, .bin .add (.v 11) (.c (.int .i64 1)), none⟩,⟨.v 11, .mov (.l 0), none⟩]))))
def f_trace_Check : PFunc := ⟨2, 15,
(.seq (.region [⟨.v 2, .boxloc 2 (.v 1), none⟩,⟨.v 3, .take (.c (.int .i64 0)), none⟩])
(.seq (.branch [⟨.l, .faddr 1 (.v 2), none⟩,⟨.l, .load 1 false (.l 0) false, none⟩,⟨.l, .len false (.l 1), none⟩,⟨.l, .bin .gtr (.l 2) (.c (.int .i64 4096)), none⟩,⟨.l, .mov (.l 3), none⟩,⟨.l, .faddr 0 (.v 2), some ((.l 4), false)⟩,⟨.l, .load 1 false (.l 5) false, some ((.l 4), false)⟩,⟨.l, .len false (.l 6), some ((.l 4), false)⟩,⟨.l, .bin .gtr (.l 7) (.c (.int .i64 384)), some ((.l 4), false)⟩,⟨.l, .pick (.l 4) (.c (.bool true)) (.l 8), none⟩] (.l 9)
(.seq (.region [⟨.v 3, .take (.c (.int .i64 3)), none⟩])
.ret)
.skip)
(.seq (.seq (.region [⟨.l, .mov (.v 0), none⟩,⟨.l, .faddr 0 (.v 2), none⟩,⟨.l, .load 1 false (.l 1) false, none⟩,⟨.l, .pcall 24 [(.l 0), (.l 2)], none⟩,⟨.v 4, .take (.l 3), none⟩])
(.branch [⟨.l, .mov (.v 4), none⟩,⟨.l, .bin .neq (.l 0) (.c (.int .i64 0)), none⟩] (.l 1)
(.seq (.region [⟨.l, .mov (.v 4), none⟩,⟨.v 3, .take (.l 0), none⟩])
.ret)
.skip))
(.seq (.seq (.region [⟨.l, .faddr 1 (.v 2), none⟩,⟨.v 9, .load 1 false (.l 0) false, none⟩,⟨.v 10, .len false (.v 9), none⟩,⟨.v 11, .mov (.c (.int .i64 0)), none⟩])
(.block 0 f_trace_Check_l1))
(.seq (.region [⟨.v 3, .take (.c (.int .i64 0)), none⟩])
.ret))))),
[.var 3], false, none, none⟩
def f_trace_Parse_l0 : PC := (.loop (.seq (.block 1 (.seq (.region [⟨.l, .mov (.v 1), none⟩,⟨.l, .pcall 26 [(.l 0), (.c (.str [10]))], none⟩,⟨.l, .mov (.l 1), none⟩,⟨.l, .extract 0 (.l 2), none⟩,⟨.l, .extract 1 (.l 2), none⟩,⟨.l, .extract 2 (.l 2), none⟩,⟨.v 7, .take (.l 3), none⟩,⟨.v 8, .take (.l 4), none⟩,⟨.v 9, .take (.l 5), none⟩])
(.seq (.branch [⟨.l, .mov (.v 9), none⟩,⟨.l, .un .not (.l 0), none⟩] (.l 1)
(.seq (.branch [⟨.l, .mov (.v 1), none⟩,⟨.l, .bin .eql (.l 0) (.c (.str [])), none⟩,⟨.l, .mov (.l 1), none⟩,⟨.l, .mov (.v 6), some ((.l 2), true)⟩,⟨.l, .bin .gtr (.l 3) (.c (.int .i64 2)), some ((.l 2), true)⟩,⟨.l, .pick (.l 2) (.l 4) (.c (.bool false)), none⟩] (.l 5)
(.seq (.region [⟨.l, .mov (.v 5), none⟩,⟨.l, .h (.nilchk (.l 0)), none⟩,⟨.l, .faddr 1 (.l 1), none⟩,⟨.l, .h (.load 2 true (.l 2) false), none⟩,⟨.n, .store 2 true (.v 2) (.l 3), none⟩,⟨.v 3, .take (.c (.int .i64 0)), none⟩,⟨.v 4, .take (.c (.int .i64 0)), none⟩])
.ret)
.skip)
(.seq (.region [⟨.l, .build [.list true [], .list true []] [], none⟩,⟨.l, .mov (.v 6), none⟩,⟨.n, .store 2 true (.v 2) (.l 0), none⟩,⟨.v 3, .take (.l 1), none⟩,⟨.v 4, .take (.c (.int .i64 4)), none⟩])
.ret))
.skip)
(.seq (.region [⟨.l, .mov (.v 8), none⟩,⟨.v 1, .take (.l 0), none⟩])
(.seq (.region [⟨.v 10, .take (.c (.int .i64 0)), none⟩])
(.seq (.seq (.region [⟨.l, .mov (.v 7), none⟩,⟨.l, .pcall 27 [(.l 0)], none⟩,⟨.v 11, .take (.l 1), none⟩])
(.seq (.region [⟨.v 13, .mov (.v 6), none⟩])
(.block 2 (.branch [⟨.l, .bin .eql (.v 13) (.c (.int .i64 1)), none⟩,⟨.l, .take (.l 0), none⟩] (.l 1)
(.region [⟨.l, .mov (.v 5), none⟩,⟨.l, .mov (.v 11), none⟩,⟨.l, .h (.call 28 [(.l 0), (.l 1)]), none⟩,⟨.v 10, .take (.l 2), none⟩])
(.branch [⟨.l, .bin .eql (.v 13) (.c (.int .i64 2)), none⟩,⟨.l, .take (.l 0), none⟩] (.l 1)
(.region [⟨.l, .mov (.v 5), none⟩,⟨.l, .mov (.v 11), none⟩,⟨.l, .h (.call 29 [(.l 0), (.l 1)]), none⟩,⟨.v 10, .take (.l 2), none⟩])
(.region [⟨.l, .mov (.v 5), none⟩,⟨.l, .mov (.v 11), none⟩,⟨.l, .h (.call 30 [(.l 0), (.l 1)]), none⟩,⟨.v 10, .take (.l 2), none⟩]))))))
(.branch [⟨.l, .mov (.v 10), none⟩,⟨.l, .bin .neq (.l 0) (.c (.int .i64 0)), none⟩] (.l 1)
(.seq (.region [⟨.l, .build [.list true [], .list true []] [], none⟩,⟨.l, .mov (.v 6), none⟩,⟨.l, .mov (.v 10), none⟩,⟨.n, .store 2 true (.v 2) (.l 0), none⟩,⟨.v 3, .take (.l 1), none⟩,⟨.v 4, .take (.l 2), none⟩])
.ret)
.skip)))))))
(.region [⟨.l, .mov (.v 6), none⟩,⟨.l, .bin .add (.l 0) (.c (.int .i64 1)), none⟩,⟨.v 6, .take (.l 1), none⟩])))
def f_trace_Parse : PFunc := ⟨2, 14,
(.seq (.region [⟨.v 2, .newloc [.list true [], .list true []], none⟩,⟨.v 3, .take (.c (.int .i64 0)), none⟩,⟨.v 4, .take (.c (.int .i64 0)), none⟩])
(.seq (.region [⟨.l, .mov (.v 0), none⟩,⟨.l, .build [.list true [], .list true [], .list true []] [(0, 1, (.l 0))], none⟩,⟨.v 12, .h (.boxobj 3 (.l 1)), none⟩,⟨.v 5, .take (.v 12), none⟩])
(.seq (.region [⟨.v 6, .take (.c (.int .i64 1)), none⟩])
(.block 0 f_trace_Parse_l0)))),
[.cell 2 2 true, .var 3, .var 4], false, none, none⟩
def f_ref43_Same_l0 : PC := (.loop (.seq (.branch [⟨.l, .mov (.v 6), none⟩,⟨.l, .faddr 0 (.v 2), none⟩,⟨.l, .load 1 false (.l 1) false, none⟩,⟨.l, .mov (.v 5), none⟩,⟨.l, .iaddrS 3 (.l 2) (.l 3), none⟩,⟨.l, .faddr 2 (.l 4), none⟩,⟨.l, .h (.loadc 1 false (.l 5)), none⟩,⟨.l, .len false (.l 6), none⟩,⟨.l, .bin .lss (.l 0) (.l 7), none⟩] (.l 8)
.skip
(.exit 2))
(.seq (.block 3 (.branch [⟨.l, .faddr 0 (.v 2), none⟩,⟨.l, .load 1 false (.l 0) false, none⟩,⟨.l, .mov (.v 5), none⟩,⟨.l, .iaddrS 3 (.l 1) (.l 2), none⟩,⟨.l, .faddr 2 (.l 3), none⟩,⟨.l, .h (.loadc 1 false (.l 4)), none⟩,⟨.l, .mov (.v 6), none⟩,⟨.l, .iaddrS 3 (.l 5) (.l 6), none⟩,⟨.l, .h (.loadc 3 true (.l 7)), none⟩,⟨.l, .faddr 0 (.v 3), none⟩,⟨.l, .load 1 false (.l 9) false, none⟩,⟨.l, .mov (.v 5), none⟩,⟨.l, .iaddrS 3 (.l 10) (.l 11), none⟩,⟨.l, .faddr 2 (.l 12), none⟩,⟨.l, .h (.loadc 1 false (.l 13)), none⟩,⟨.l, .mov (.v 6), none⟩,⟨.l, .iaddrS 3 (.l 14) (.l 15), none⟩,⟨.l, .h (.loadc 3 true (.l 16)), none⟩,⟨.l, .eq true true [.s, .i, .i] (.l 8) (.l 17), none⟩] (.l 18)
(.seq (.region [⟨.v 4, .take (.c (.bool false)), none⟩])
.ret)
.skip))
(.region [⟨.l, .mov (.v 6), none⟩,⟨.l, .bin .add (.l 0) (.c (.int .i64 1)), none⟩,⟨.v 6, .take (.l 1), none⟩]))))
def f_ref43_Same_l1 : PC := (.loop (.seq (.branch [⟨.l, .mov (.v 5), none⟩,⟨.l, .faddr 0 (.v 2), none⟩,⟨.l, .load 1 false (.l 1) false, none⟩,⟨.l, .len false (.l 2), none⟩,⟨.l, .bin .lss (.l 0) (.l 3), none⟩] (.l 4)
.skip
(.exit 0))
(.seq (.block 1 (.seq (.branch [⟨.l, .faddr 0 (.v 2), none⟩,⟨.l, .load 1 false (.l 0) false, none⟩,⟨.l, .mov (.v 5), none⟩,⟨.l, .iaddrS 3 (.l 1) (.l 2), none⟩,⟨.l, .faddr 0 (.l 3), none⟩,⟨.l, .h (.loadc 1 false (.l 4)), none⟩,⟨.l, .faddr 0 (.v 3), none⟩,⟨.l, .load 1 false (.l 6) false, none⟩,⟨.l, .mov (.v 5), none⟩,⟨.l, .iaddrS 3 (.l 7) (.l 8), none⟩,⟨.l, .faddr 0 (.l 9), none⟩,⟨.l, .h (.loadc 1 false (.l 10)), none⟩,⟨.l, .bin .neq (.l 5) (.l 11), none⟩,⟨.l, .mov (.l 12), none⟩,⟨.l, .faddr 0 (.v 2), some ((.l 13), false)⟩,⟨.l, .load 1 false (.l 14) false, some ((.l 13), false)⟩,⟨.l, .mov (.v 5), some ((.l 13), false)⟩,⟨.l, .iaddrS 3 (.l 15) (.l 16), some ((.l 13), false)⟩,⟨.l, .faddr 1 (.l 17), some ((.l 13), false)⟩,⟨.l, .h (.loadc 1 false (.l 18)), some ((.l 13), false)⟩,⟨.l, .faddr 0 (.v 3), some ((.l 13), false)⟩,⟨.l, .load 1 false (.l 20) false, some ((.l 13), false)⟩,⟨.l, .mov (.v 5), some ((.l 13), false)⟩,⟨.l, .iaddrS 3 (.l 21) (.l 22), some ((.l 13), false)⟩,⟨.l, .faddr 1 (.l 23), some ((.l 13), false)⟩,⟨.l, .h (.loadc 1 false (.l 24)), some ((.l 13), false)⟩,⟨.l, .bin .neq (.l 19) (.l 25), some ((.l 13), false)⟩,⟨.l, .pick (.l 13) (.c (.bool true)) (.l 26), none⟩,⟨.l, .mov (.l 27), none⟩,⟨.l, .faddr 0 (.v 2), some ((.l 28), false)⟩,⟨.l, .load 1 false (.l 29) false, some ((.l 28), false)⟩,⟨.l, .mov (.v 5), some ((.l 28), false)⟩,⟨.l, .iaddrS 3 (.l 30) (.l 31), some ((.l 28), false)⟩,⟨.l, .faddr 2 (.l 32), some ((.l 28), false)⟩,⟨.l, .h (.loadc 1 false (.l 33)), some ((.l 28), false)⟩,⟨.l, .len false (.l 34), some ((.l 28), false)⟩,⟨.l, .faddr 0 (.v 3), some ((.l 28), false)⟩,⟨.l, .load 1 false (.l 36) false, some ((.l 28), false)⟩,⟨.l, .mov (.v 5), some ((.l 28), false)⟩,⟨.l, .iaddrS 3 (.l 37) (.l 38), some ((.l 28), false)⟩,⟨.l, .faddr 2 (.l 39), some ((.l 28), false)⟩,⟨.l, .h (.loadc 1 false (.l 40)), some ((.l 28), false)⟩,⟨.l, .len false (.l 41), some ((.l 28), false)⟩,⟨.l, .bin .neq (.l 35) (.l 42), some ((.l 28), false)⟩,⟨.l, .pick (.l 28) (.c (.bool true)) (.l 43), none⟩] (.l 44)
(.seq (.region [⟨.v 4, .take (.c (.bool false)), none⟩])
.ret)
.skip)
(.seq (.region [⟨.v 6, .take (.c (.int .i64 0)), none⟩])
(.block 2 f_ref43_Same_l0))))
(.region [⟨.l, .mov (.v 5), none⟩,⟨.l, .bin .add (.l 0) (.c (.int .i64 1)), none⟩,⟨.v 5, .take (.l 1), none⟩]))))
def f_ref43_Same_l2 : PC := (.loop (.seq (.branch [⟨.l, .mov (.v 8), none⟩,⟨.l, .faddr 1 (.v 2), none⟩,⟨.l, .load 1 false (.l 1) false, none⟩,⟨.l, .mov (.v 7), none⟩,⟨.l, .iaddrS 1 (.l 2) (.l 3), none⟩,⟨.l, .h (.loadc 1 false (.l 4)), none⟩,⟨.l, .len false (.l 5), none⟩,⟨.l, .bin .lss (.l 0) (.l 6), none⟩] (.l 7)
.skip
(.exit 6))
(.seq (.block 7 (.branch [⟨.l, .faddr 1 (.v 2), none⟩,⟨.l, .load 1 false (.l 0) false, none⟩,⟨.l, .mov (.v 7), none⟩,⟨.l, .iaddrS 1 (.l 1) (.l 2), none⟩,⟨.l, .h (.loadc 1 false (.l 3)), none⟩,⟨.l, .mov (.v 8), none⟩,⟨.l, .iaddrS 2 (.l 4) (.l 5), none⟩,⟨.l, .h (.loadc 2 true (.l 6)), none⟩,⟨.l, .faddr 1 (.v 3), none⟩,⟨.l, .load 1 false (.l 8) false, none⟩,⟨.l, .mov (.v 7), none⟩,⟨.l, .iaddrS 1 (.l 9) (.l 10), none⟩,⟨.l, .h (.loadc 1 false (.l 11)), none⟩,⟨.l, .mov (.v 8), none⟩,⟨.l, .iaddrS 2 (.l 12) (.l 13), none⟩,⟨.l, .h (.loadc 2 true (.l 14)), none⟩,⟨.l, .eq true true [.i, .i] (.l 7) (.l 15), none⟩] (.l 16)
(.seq (.region [⟨.v 4, .take (.c (.bool false)), none⟩])
.ret)
.skip))
(.region [⟨.l, .mov (.v 8), none⟩,⟨.l, .bin .add (.l 0) (.c (.int .i64 1)), none⟩,⟨.v 8, .take (.l 1), none⟩]))))
def f_ref43_Same_l3 : PC := (.loop (.seq (.branch [⟨.l, .mov (.v 7), none⟩,⟨.l, .faddr 1 (.v 2), none⟩,⟨.l, .load 1 false (.l 1) false, none⟩,⟨.l, .len false (.l 2), none⟩,⟨.l, .bin .lss (.l 0) (.l 3), none⟩] (.l 4)
.skip
(.exit 4))
(.seq (.block 5 (.seq (.branch [⟨.l, .faddr 1 (.v 2), none⟩,⟨.l, .load 1 false (.l 0) false, none⟩,⟨.l, .mov (.v 7), none⟩,⟨.l, .iaddrS 1 (.l 1) (.l 2), none⟩,⟨.l, .h (.loadc 1 false (.l 3)), none⟩,⟨.l, .len false (.l 4), none⟩,⟨.l, .faddr 1 (.v 3), none⟩,⟨.l, .load 1 false (.l 6) false, none⟩,⟨.l, .mov (.v 7), none⟩,⟨.l, .iaddrS 1 (.l 7) (.l 8), none⟩,⟨.l, .h (.loadc 1 false (.l 9)), none⟩,⟨.l, .len false (.l 10), none⟩,⟨.l, .bin .neq (.l 5) (.l 11), none⟩] (.l 12)
(.seq (.region [⟨.v 4, .take (.c (.bool false)), none⟩])
.ret)
.skip)
(.seq (.region [⟨.v 8, .take (.c (.int .i64 0)), none⟩])
(.block 6 f_ref43_Same_l2))))
(.region [⟨.l, .mov (.v 7), none⟩,⟨.l, .bin .add (.l 0) (.c (.int .i64 1)), none⟩,⟨.v 7, .take (.l 1), none⟩]))))
def f_ref43_Same : PFunc := ⟨2, 9,
(.seq (.region [⟨.v 2, .boxloc 2 (.v 0), none⟩,⟨.v 3, .boxloc 2 (.v 1), none⟩,⟨.v 4, .take (.c (.bool false)), none⟩])
(.seq (.branch [⟨.l, .faddr 0 (.v 2), none⟩,⟨.l, .load 1 false (.l 0) false, none⟩,⟨.l, .len false (.l 1), none⟩,⟨.l, .faddr 0 (.v 3), none⟩,⟨.l, .load 1 false (.l 3) false, none⟩,⟨.l, .len false (.l 4), none⟩,⟨.l, .bin .neq (.l 2) (.l 5), none⟩,⟨.l, .mov (.l 6), none⟩,⟨.l, .faddr 1 (.v 2), some ((.l 7), false)⟩,⟨.l, .load 1 false (.l 8) false, some ((.l 7), false)⟩,⟨.l, .len false (.l 9), some ((.l 7), false)⟩,⟨.l, .faddr 1 (.v 3), some ((.l 7), false)⟩,⟨.l, .load 1 false (.l 11) false, some ((.l 7), false)⟩,⟨.l, .len false (.l 12), some ((.l 7), false)⟩,⟨.l, .bin .neq (.l 10) (.l 13), some ((.l 7), false)⟩,⟨.l, .pick (.l 7) (.c (.bool true)) (.l 14), none⟩] (.l 15)
(.seq (.region [⟨.v 4, .take (.c (.bool false)), none⟩])
.ret)
.skip)
(.seq (.seq (.region [⟨.v 5, .take (.c (.int .i64 0)), none⟩])
(.block 0 f_ref43_Same_l1))
(.seq (.seq (.region [⟨.v 7, .take (.c (.int .i64 0)), none⟩])
(.block 4 f_ref43_Same_l3))
(.seq (.region [⟨.v 4, .take (.c (.bool true)), none⟩])
.ret))))),
[.var 4], false, none, none⟩
def f_ref36_Lines_l0 : PC := (.loop (.seq (.branch [⟨.l, .mov (.v 4), none⟩,⟨.l, .mov (.v 0), none⟩,⟨.l, .len true (.l 1), none⟩,⟨.l, .bin .lss (.l 0) (.l 2), none⟩] (.l 3)
.skip
(.exit 0))
(.seq (.block 1 (.branch [⟨.l, .mov (.v 0), none⟩,⟨.l, .mov (.v 4), none⟩,⟨.l, .indexStr (.l 0) (.l 1), none⟩,⟨.l, .bin .eql (.l 2) (.c (.int .u8 10)), none⟩] (.l 3)
(.seq (.region [⟨.l, .take (.v 2), none⟩,⟨.l, .mov (.v 0), none⟩,⟨.l, .mov (.v 3), none⟩,⟨.l, .mov (.v 4), none⟩,⟨.l, .slice true 1 (.l 1) (some (.l 2)) (some (.l 3)), none⟩,⟨.l, .mkslice 1 (.str []) 1 [(0, (.l 4))], none⟩,⟨.l, .append 1 16 (.l 0) (.l 5), none⟩,⟨.v 2, .take (.l 6), none⟩])
(.region [⟨.l, .mov (.v 4), none⟩,⟨.l, .bin .add (.l 0) (.c (.int .i64 1)), none⟩,⟨.v 3, .take (.l 1), none⟩]))
.skip))
(.region [⟨.l, .mov (.v 4), none⟩,⟨.l, .bin .add (.l 0) (.c (.int .i64 1)), none⟩,⟨.v 4, .take (.l 1), none⟩]))))
def f_ref36_Lines : PFunc := ⟨1, 5,
(.seq (.region [⟨.v 1, .take (.c (.list true [])), none⟩])
(.seq (.region [⟨.v 2, .take (.c (.list true [])), none⟩])
(.seq (.region [⟨.v 3, .take (.c (.int .i64 0)), none⟩])
(.seq (.seq (.region [⟨.v 4, .take (.c (.int .i64 0)), none⟩])
(.block 0 f_ref36_Lines_l0))
(.seq (.region [⟨.l, .take (.v 2), none⟩,⟨.l, .mov (.v 0), none⟩,⟨.l, .mov (.v 3), none⟩,⟨.l, .slice true 1 (.l 1) (some (.l 2)) none, none⟩,⟨.l, .mkslice 1 (.str []) 1 [(0, (.l 3))], none⟩,⟨.l, .append 1 16 (.l 0) (.l 4), none⟩,⟨.v 1, .take (.l 5), none⟩])
.ret))))),
[.var 1], false, none, none⟩
def f_trace_Col_l0 : PC := (.loop (.seq (.branch [⟨.l, .bin .lss (.v 15) (.v 14), none⟩] (.l 0)
.skip
(.exit 2))
(.seq (.block 3 (.seq (.region [⟨.l, .iaddrS 1 (.v 13) (.v 15), none⟩,⟨.l, .h (.loadc 1 false (.l 0)), none⟩,⟨.v 8, .take (.l 1), none⟩])
(.seq (.region [⟨.l, .build [.int .i64 0, .int .i64 0] [], none⟩,⟨.v 9, .newloc [.int .i64 0, .int .i64 0], none⟩,⟨.n, .store 2 true (.v 9) (.l 0), none⟩])
(.seq (.branch [⟨.l, .mov (.v 5), none⟩,⟨.l, .mov (.v 8), none⟩,⟨.l, .len false (.l 1), none⟩,⟨.l, .bin .lss (.l 0) (.l 2), none⟩] (.l 3)
(.region [⟨.l, .mov (.v 8), none⟩,⟨.l, .mov (.v 5), none⟩,⟨.l, .iaddrS 2 (.l 0) (.l 1), none⟩,⟨.l, .h (.loadc 2 true (.l 2)), none⟩,⟨.n, .store 2 true (.v 9) (.l 3), none⟩])
.skip)
(.region [⟨.l, .take (.v 7), none⟩,⟨.l, .load 2 true (.v 9) false, none⟩,⟨.l, .mkslice 2 (.agg [.int .i64 0, .int .i64 0]) 1 [(0, (.l 1))], none⟩,⟨.l, .append 2 16 (.l 0) (.l 2), none⟩,⟨.v 7, .take (.l 3), none⟩])))))
(.region [⟨.l, .bin .add (.v 15) (.c (.int .i64 1)), none⟩,⟨.v 15, .mov (.l 0), none⟩]))))
def f_trace_Col_l1 : PC := (.loop (.seq (.branch [⟨.l, .bin .lss (.v 12) (.v 11), none⟩] (.l 0)
.skip
(.exit 0))
(.seq (.block 1 (.seq (.region [⟨.l, .mov (.v 12), none⟩,⟨.l, .iaddrS 3 (.v 10) (.v 12), none⟩,⟨.l, .h (.loadc 3 true (.l 1)), none⟩,⟨.v 6, .newloc [.str [], .int .i64 0, .list true []], none⟩,⟨.v 5, .take (.l 0), none⟩,⟨.n, .store 3 true (.v 6) (.l 2), none⟩])
(.seq (.branch [⟨.l, .faddr 0 (.v 6), none⟩,⟨.l, .load 1 false (.l 0) false, none⟩,⟨.l, .mov (.v 1), none⟩,⟨.l, .bin .neq (.l 1) (.l 2), none⟩] (.l 3)
(.exit 1)
.skip)
(.seq (.region [⟨.v 7, .take (.c (.list true [])), none⟩])
(.seq (.seq (.region [⟨.l, .faddr 1 (.v 2), none⟩,⟨.v 13, .load 1 false (.l 0) false, none⟩,⟨.v 14, .len false (.v 13), none⟩,⟨.v 15, .mov (.c (.int .i64 0)), none⟩])
(.block 2 f_trace_Col_l0))
(.seq (.region [⟨.l, .mov (.v 7), none⟩,⟨.v 3, .take (.l 0), none⟩,⟨.v 4, .take (.c (.bool true)), none⟩])
.ret))))))
(.region [⟨.l, .bin .add (.v 12) (.c (.int .i64 1)), none⟩,⟨.v 12, .mov (.l 0), none⟩]))))
def f_trace_Col : PFunc := ⟨2, 16,
(.seq (.region [⟨.v 2, .boxloc 2 (.v 0), none⟩,⟨.v 3, .take (.c (.list true [])), none⟩,⟨.v 4, .take (.c (.bool false)), none⟩])
(.seq (.seq (.region [⟨.l, .faddr 0 (.v 2), none⟩,⟨.v 10, .load 1 false (.l 0) false, none⟩,⟨.v 11, .len false (.v 10), none⟩,⟨.v 12, .mov (.c (.int .i64 0)), none⟩])
(.block 0 f_trace_Col_l1))
(.seq (.region [⟨.v 3, .take (.c (.list true [])), none⟩,⟨.v 4, .take (.c (.bool false)), none⟩])
.ret))),
[.var 3, .var 4], false, none, none⟩
def f_trace_Rows_l0 : PC := (.loop (.seq (.branch [⟨.l, .bin .lss (.v 15) (.v 14), none⟩] (.l 0)
.skip
(.exit 0))
(.seq (.block 1 (.seq (.region [⟨.l, .iaddrS 1 (.v 13) (.v 15), none⟩,⟨.l, .h (.loadc 1 false (.l 0)), none⟩,⟨.v 6, .take (.l 1), none⟩])
(.seq (.region [⟨.l, .load 2 true (.v 2) false, none⟩,⟨.l, .mov (.v 6), none⟩,⟨.l, .pcall 11 [(.l 0), (.l 1)], none⟩,⟨.l, .mov (.l 2), none⟩,⟨.l, .extract 0 (.l 3), none⟩,⟨.l, .extract 1 (.l 3), none⟩,⟨.v 7, .take (.l 4), none⟩,⟨.v 8, .take (.l 5), none⟩])
(.seq (.branch [⟨.l, .mov (.v 8), none⟩,⟨.l, .un .not (.l 0), none⟩] (.l 1)
(.seq (.region [⟨.v 3, .take (.c (.list true [])), none⟩,⟨.v 4, .take (.c (.int .i64 6)), none⟩])
.ret)
.skip)
(.region [⟨.l, .take (.v 5), none⟩,⟨.l, .mov (.v 7), none⟩,⟨.l, .mkslice 1 (.list true []) 1 [(0, (.l 1))], none⟩,⟨.l, .append 1 24 (.l 0) (.l 2), none⟩,⟨.v 5, .take (.l 3), none⟩])))))
(.region [⟨.l, .bin .add (.v 15) (.c (.int .i64 1)), none⟩,⟨.v 15, .mov (.l 0), none⟩]))))
def f_trace_Rows_l1 : PC := (.loop (.seq (.branch [⟨.l, .bin .lss (.v 21) (.v 20), none⟩] (.l 0)
.skip
(.exit 4))
(.seq (.block 5 (.seq (.region [⟨.l, .mov (.v 21), none⟩,⟨.l, .iaddrS 2 (.v 19) (.v 21), none⟩,⟨.l, .h (.loadc 2 true (.l 1)), none⟩,⟨.v 12, .newloc [.int .i64 0, .int .i64 0], none⟩,⟨.v 11, .take (.l 0), none⟩,⟨.n, .store 2 true (.v 12) (.l 2), none⟩])
(.seq (.branch [⟨.l, .faddr 0 (.v 12), none⟩,⟨.l, .load 1 false (.l 0) false, none⟩,⟨.l, .bin .neq (.l 1) (.c (.int .i64 1)), none⟩] (.l 2)
(.seq (.region [⟨.v 3, .take (.c (.list true [])), none⟩,⟨.v 4, .take (.c (.int .i64 8)), none⟩])
.ret)
.skip)
(.region [⟨.l, .mov (.v 9), none⟩,⟨.l, .mov (.v 11), none⟩,⟨.l, .mov (.v 9), none⟩,⟨.l, .mov (.v 11), none⟩,⟨.l, .iaddrS 1 (.l 2) (.l 3), none⟩,⟨.l, .h (.load 1 false (.l 4) true), none⟩,⟨.l, .faddr 1 (.v 12), none⟩,⟨.l, .load 1 false (.l 6) false, none⟩,⟨.l, .mkslice 1 (.int .i64 0) 1 [(0, (.l 7))], none⟩,⟨.l, .append 1 8 (.l 5) (.l 8), none⟩,⟨.l, .iaddrS 1 (.l 0) (.l 1), none⟩,⟨.n, .h (.store 1 false (.l 10) (.l 9)), none⟩]))))
(.region [⟨.l, .bin .add (.v 21) (.c (.int .i64 1)), none⟩,⟨.v 21, .mov (.l 0), none⟩]))))
def f_trace_Rows_l2 : PC := (.loop (.seq (.branch [⟨.l, .bin .lss (.v 18) (.v 17), none⟩] (.l 0)
.skip
(.exit 2))
(.seq (.block 3 (.seq (.region [⟨.l, .iaddrS 1 (.v 16) (.v 18), none⟩,⟨.l, .h (.loadc 1 false (.l 0)), none⟩,⟨.v 10, .take (.l 1), none⟩])
(.seq (.region [⟨.v 19, .mov (.v 10), none⟩,⟨.v 20, .len false (.v 19), none⟩,⟨.v 21, .mov (.c (.int .i64 0)), none⟩])
(.block 4 f_trace_Rows_l1))))
(.region [⟨.l, .bin .add (.v 18) (.c (.int .i64 1)), none⟩,⟨.v 18, .mov (.l 0), none⟩]))))
def f_trace_Rows : PFunc := ⟨2, 22,
(.seq (.region [⟨.v 2, .boxloc 2 (.v 0), none⟩,⟨.v 3, .take (.c (.list true [])), none⟩,⟨.v 4, .take (.c (.int .i64 0)), none⟩])
(.seq (.region [⟨.v 5, .take (.c (.list true [])), none⟩])
(.seq (.seq (.region [⟨.v 13, .mov (.v 1), none⟩,⟨.v 14, .len false (.v 13), none⟩,⟨.v 15, .mov (.c (.int .i64 0)), none⟩])
(.block 0 f_trace_Rows_l0))
(.seq (.region [⟨.l, .faddr 1 (.v 2), none⟩,⟨.l, .load 1 false (.l 0) false, none⟩,⟨.l, .len false (.l 1), none⟩,⟨.l, .h (.mkarr 1 false 24 [.list true []] (.l 2)), none⟩,⟨.v 9, .take (.l 3), none⟩])
(.seq (.seq (.region [⟨.v 16, .mov (.v 5), none⟩,⟨.v 17, .len false (.v 16), none⟩,⟨.v 18, .mov (.c (.int .i64 0)), none⟩])
(.block 2 f_trace_Rows_l2))
(.seq (.region [⟨.l, .mov (.v 9), none⟩,⟨.v 3, .take (.l 0), none⟩,⟨.v 4, .take (.c (.int .i64 0)), none⟩])
.ret)))))),
[.var 3, .var 4], false, none, none⟩
def f_law43_cells_l0 : PC := (.loop (.seq (.branch [⟨.l, .mov (.v 3), none⟩,⟨.l, .mov (.v 0), none⟩,⟨.l, .len false (.l 1), none⟩,⟨.l, .bin .lss (.l 0) (.l 2), none⟩] (.l 3)
.skip
(.exit 0))
(.seq (.block 1 (.branch [⟨.l, .mov (.v 0), none⟩,⟨.l, .mov (.v 3), none⟩,⟨.l, .iaddrS 2 (.l 0) (.l 1), none⟩,⟨.l, .h (.loadc 2 true (.l 2)), none⟩,⟨.l, .mov (.v 1), none⟩,⟨.l, .mov (.v 3), none⟩,⟨.l, .iaddrS 2 (.l 4) (.l 5), none⟩,⟨.l, .h (.loadc 2 true (.l 6)), none⟩,⟨.l, .eq true true [.i, .i] (.l 3) (.l 7), none⟩] (.l 8)
(.seq (.region [⟨.v 2, .take (.c (.bool false)), none⟩])
.ret)
.skip))
(.region [⟨.l, .mov (.v 3), none⟩,⟨.l, .bin .add (.l 0) (.c (.int .i64 1)), none⟩,⟨.v 3, .take (.l 1), none⟩]))))
def f_law43_cells : PFunc := ⟨2, 4,
(.seq (.region [⟨.v 2, .take (.c (.bool false)), none⟩])
(.seq (.branch [⟨.l, .mov (.v 0), none⟩,⟨.l, .len false (.l 0), none⟩,⟨.l, .mov (.v 1), none⟩,⟨.l, .len false (.l 2), none⟩,⟨.l, .bin .neq (.l 1) (.l 3), none⟩] (.l 4)
(.seq (.region [⟨.v 2, .take (.c (.bool false)), none⟩])
.ret)
.skip)
(.seq (.seq (.region [⟨.v 3, .take (.c (.int .i64 0)), none⟩])
(.block 0 f_law43_cells_l0))
(.seq (.region [⟨.v 2, .take (.c (.bool true)), none⟩])
.ret)))),
[.var 2], false, none, none⟩
def f_law43_sample : PFunc := ⟨0, 2,
(.seq (.region [⟨.v 0, .newloc [.list true [], .list true []], none⟩])
(.seq (.region [⟨.l, .build [.str [], .int .i64 0, .list true []] [(0, 1, (.c (.str [114]))), (1, 1, (.c (.int .i64 1)))], none⟩,⟨.l, .build [.str [], .int .i64 0, .list true []] [(0, 1, (.c (.str [110]))), (1, 1, (.c (.int .i64 2)))], none⟩,⟨.l, .mkslice 3 (.agg [.str [], .int .i64 0, .list true []]) 2 [(0, (.l 0)), (1, (.l 1))], none⟩,⟨.l, .build [.list true [], .list true []] [(0, 1, (.l 2))], none⟩,⟨.v 1, .newloc [.list true [], .list true []], none⟩,⟨.n, .store 2 true (.v 1) (.l 3), none⟩])
(.seq (.region [⟨.l, .build [.int .i64 0, .int .i64 0] [(0, 1, (.c (.int .i64 1))), (1, 1, (.c (.int .i64 1)))], none⟩,⟨.l, .build [.int .i64 0, .int .i64 0] [(0, 1, (.c (.int .i64 1))), (1, 1, (.c (.int .i64 (-1))))], none⟩,⟨.l, .mkslice 2 (.agg [.int .i64 0, .int .i64 0]) 2 [(0, (.l 0)), (1, (.l 1))], none⟩,⟨.l, .build [.int .i64 0, .int .i64 0] [], none⟩,⟨.l, .build [.int .i64 0, .int .i64 0] [(0, 1, (.c (.int .i64 2)))], none⟩,⟨.l, .mkslice 2 (.agg [.int .i64 0, .int .i64 0]) 2 [(0, (.l 3)), (1, (.l 4))], none⟩,⟨.l, .mkslice 1 (.list true []) 2 [(0, (.l 2)), (1, (.l 5))], none⟩,⟨.l, .faddr 1 (.v 1), none⟩,⟨.n, .store 1 false (.l 7) (.l 6), none⟩])
(.seq (.region [⟨.l, .load 2 true (.v 1) false, none⟩,⟨.n, .store 2 true (.v 0) (.l 0), none⟩])
.ret)))),
[.cell 0 2 true], false, none, none⟩
def f_ref04_Same_l0 : PC := (.loop (.seq (.branch [⟨.l, .mov (.v 3), none⟩,⟨.l, .mov (.v 0), none⟩,⟨.l, .len false (.l 1), none⟩,⟨.l, .bin .lss (.l 0) (.l 2), none⟩] (.l 3)
.skip
(.exit 0))
(.seq (.block 1 (.branch [⟨.l, .mov (.v 0), none⟩,⟨.l, .mov (.v 3), none⟩,⟨.l, .iaddrS 1 (.l 0) (.l 1), none⟩,⟨.l, .h (.loadc 1 false (.l 2)), none⟩,⟨.l, .mov (.v 1), none⟩,⟨.l, .mov (.v 3), none⟩,⟨.l, .iaddrS 1 (.l 4) (.l 5), none⟩,⟨.l, .h (.loadc 1 false (.l 6)), none⟩,⟨.l, .bin .neq (.l 3) (.l 7), none⟩] (.l 8)
(.seq (.region [⟨.v 2, .take (.c (.bool false)), none⟩])
.ret)
.skip))
(.region [⟨.l, .mov (.v 3), none⟩,⟨.l, .bin .add (.l 0) (.c (.int .i64 1)), none⟩,⟨.v 3, .take (.l 1), none⟩]))))
def f_ref04_Same : PFunc := ⟨2, 4,
(.seq (.region [⟨.v 2, .take (.c (.bool false)), none⟩])
(.seq (.branch [⟨.l, .mov (.v 0), none⟩,⟨.l, .len false (.l 0), none⟩,⟨.l, .mov (.v 1), none⟩,⟨.l, .len false (.l 2), none⟩,⟨.l, .bin .neq (.l 1) (.l 3), none⟩] (.l 4)
(.seq (.region [⟨.v 2, .take (.c (.bool false)), none⟩])
.ret)
.skip)
(.seq (.seq (.region [⟨.v 3, .take (.c (.int .i64 0)), none⟩])
(.block 0 f_ref04_Same_l0))
(.seq (.region [⟨.v 2, .take (.c (.bool true)), none⟩])
.ret)))),
[.var 2], false, none, none⟩
def f_value_Name : PFunc := ⟨2, 7,
(.seq (.region [⟨.v 2, .take (.c (.str [])), none⟩,⟨.v 3, .take (.c (.bool false)), none⟩])
(.seq (.seq (.region [⟨.v 6, .mov (.v 1), none⟩])
(.block 0 (.branch [⟨.l, .bin .eql (.v 6) (.c (.int .i64 1)), none⟩,⟨.l, .take (.l 0), none⟩] (.l 1)
(.seq (.region [⟨.v 2, .take (.c (.str [98, 111, 111, 108])), none⟩,⟨.v 3, .take (.c (.bool true)), none⟩])
.ret)
(.branch [⟨.l, .bin .eql (.v 6) (.c (.int .i64 2)), none⟩,⟨.l, .take (.l 0), none⟩] (.l 1)
(.seq (.region [⟨.v 2, .take (.c (.str [105, 110, 116])), none⟩,⟨.v 3, .take (.c (.bool true)), none⟩])
.ret)
.skip))))
(.seq (.region [⟨.l, .mov (.v 0), none⟩,⟨.l, .mov (.v 1), none⟩,⟨.l, .pcall 33 [(.l 0), (.l 1)], none⟩,⟨.l, .mov (.l 2), none⟩,⟨.l, .extract 0 (.l 3), none⟩,⟨.l, .extract 1 (.l 3), none⟩,⟨.v 4, .newloc [.str [], .list true []], none⟩,⟨.n, .store 2 true (.v 4) (.l 4), none⟩,⟨.v 5, .take (.l 5), none⟩])
(.seq (.region [⟨.l, .faddr 0 (.v 4), none⟩,⟨.l, .load 1 false (.l 0) false, none⟩,⟨.l, .mov (.v 5), none⟩,⟨.v 2, .take (.l 1), none⟩,⟨.v 3, .take (.l 2), none⟩])
.ret)))),
[.var 2, .var 3], false, none, none⟩
def f_trace_Text_1 : PFunc := ⟨2, 2,
(.region [⟨.l, .mov (.v 0), none⟩,⟨.l, .pcall 35 [(.l 0), (.c (.str [32]))], none⟩,⟨.l, .bin .add (.l 1) (.c (.str [10])), none⟩,⟨.l, .h (.call 34 [(.v 1), (.l 2)]), none⟩]),
[], false, none, none⟩
def f_trace_word : PFunc := ⟨3, 7,
(.seq (.region [⟨.v 3, .boxloc 2 (.v 2), none⟩,⟨.v 4, .take (.c (.str [])), none⟩])
(.seq (.seq (.region [⟨.l, .faddr 0 (.v 3), none⟩,⟨.v 6, .load 1 false (.l 0) false, none⟩])
(.block 0 (.branch [⟨.l, .bin .eql (.v 6) (.c (.int .i64 0)), none⟩,⟨.l, .take (.l 0), none⟩] (.l 1)
(.seq (.region [⟨.v 4, .take (.c (.str [45])), none⟩])
.ret)
(.branch [⟨.l, .bin .eql (.v 6) (.c (.int .i64 2)), none⟩,⟨.l, .take (.l 0), none⟩] (.l 1)
(.seq (.region [⟨.v 4, .take (.c (.str [63])), none⟩])
.ret)
.skip))))
(.seq (.region [⟨.l, .mov (.v 0), none⟩,⟨.l, .mov (.v 1), none⟩,⟨.l, .faddr 1 (.v 3), none⟩,⟨.l, .load 1 false (.l 2) false, none⟩,⟨.l, .pcall 36 [(.l 0), (.l 1), (.l 3)], none⟩,⟨.l, .mov (.l 4), none⟩,⟨.l, .extract 0 (.l 5), none⟩,⟨.l, .extract 1 (.l 5), none⟩,⟨.v 5, .take (.l 6), none⟩,⟨.l, .take (.l 7), none⟩])
(.seq (.region [⟨.l, .mov (.v 5), none⟩,⟨.v 4, .take (.l 0), none⟩])
.ret)))),
[.var 4], false, none, none⟩
def f_strings_Builder_String : PFunc := { params := 1, nv := 1, code := .skip, results := [], prim := some pBString }
def f_trace_columns_l0 : PC := (.loop (.seq (.branch [⟨.l, .bin .lss (.v 8) (.v 7), none⟩] (.l 0)
.skip
(.exit 0))
(.seq (.block 1 (.seq (.region [⟨.l, .iaddrS 3 (.v 6) (.v 8), none⟩,⟨.l, .h (.loadc 3 true (.l 0)), none⟩,⟨.v 4, .newloc [.str [], .int .i64 0, .list true []], none⟩,⟨.n, .store 3 true (.v 4) (.l 1), none⟩])
(.seq (.region [⟨.l, .mov (.v 0), none⟩,⟨.l, .faddr 1 (.v 4), none⟩,⟨.l, .load 1 false (.l 1) false, none⟩,⟨.l, .pcall 20 [(.l 0), (.l 2)], none⟩,⟨.l, .mov (.l 3), none⟩,⟨.l, .extract 0 (.l 4), none⟩,⟨.l, .extract 1 (.l 4), none⟩,⟨.l, .take (.l 5), none⟩,⟨.v 5, .take (.l 6), none⟩])
(.seq (.block 2 (.branch [⟨.l, .faddr 0 (.v 4), none⟩,⟨.l, .load 1 false (.l 0) false, none⟩,⟨.l, .pcall 37 [(.l 1)], none⟩,⟨.l, .un .not (.l 2), none⟩,⟨.l, .take (.l 3), none⟩] (.l 4)
(.seq (.region [⟨.v 2, .take (.c (.int .i64 6)), none⟩])
.ret)
(.branch [⟨.l, .mov (.v 5), none⟩,⟨.l, .un .not (.l 0), none⟩,⟨.l, .take (.l 1), none⟩] (.l 2)
(.seq (.region [⟨.v 2, .take (.c (.int .i64 10)), none⟩])
.ret)
(.branch [⟨.l, .faddr 2 (.v 4), none⟩,⟨.l, .load 1 false (.l 0) false, none⟩,⟨.l, .len false (.l 1), none⟩,⟨.l, .bin .gtr (.l 2) (.c (.int .i64 0)), none⟩,⟨.l, .take (.l 3), none⟩] (.l 4)
(.seq (.region [⟨.v 2, .take (.c (.int .i64 11)), none⟩])
.ret)
(.branch [⟨.l, .mov (.v 3), none⟩,⟨.l, .faddr 0 (.v 4), none⟩,⟨.l, .load 1 false (.l 1) false, none⟩,⟨.l, .h (.lookup false false false [.s] (.bool false) (.l 0) (.l 2)), none⟩,⟨.l, .take (.l 3), none⟩] (.l 4)
(.seq (.region [⟨.v 2, .take (.c (.int .i64 7)), none⟩])
.ret)
.skip)))))
(.region [⟨.l, .mov (.v 3), none⟩,⟨.l, .faddr 0 (.v 4), none⟩,⟨.l, .load 1 false (.l 1) false, none⟩,⟨.n, .h (.mset false [.s] (.l 0) (.l 2) (.c (.bool true))), none⟩])))))
(.region [⟨.l, .bin .add (.v 8) (.c (.int .i64 1)), none⟩,⟨.v 8, .mov (.l 0), none⟩]))))
def f_trace_columns : PFunc := ⟨2, 9,
(.seq (.region [⟨.v 2, .take (.c (.int .i64 0)), none⟩])
(.seq (.region [⟨.l, .h (.mkmap), none⟩,⟨.v 3, .take (.l 0), none⟩])
(.seq (.seq (.region [⟨.v 6, .mov (.v 1), none⟩,⟨.v 7, .len false (.v 6), none⟩,⟨.v 8, .mov (.c (.int .i64 0)), none⟩])
(.block 0 f_trace_columns_l0))
(.seq (.region [⟨.v 2, .take (.c (.int .i64 0)), none⟩])
.ret)))),
[.var 2], false, none, none⟩
def f_trace_cell : PFunc := ⟨3, 6,
(.seq (.region [⟨.v 3, .boxloc 2 (.v 2), none⟩,⟨.v 4, .take (.c (.int .i64 0)), none⟩])
(.seq (.block 0 (.seq (.branch [⟨.l, .faddr 0 (.v 3), none⟩,⟨.l, .load 1 false (.l 0) false, none⟩,⟨.l, .bin .neq (.l 1) (.c (.int .i64 1)), none⟩,⟨.l, .mov (.l 2), none⟩,⟨.l, .faddr 1 (.v 3), some ((.l 3), true)⟩,⟨.l, .load 1 false (.l 4) false, some ((.l 3), true)⟩,⟨.l, .bin .neq (.l 5) (.c (.int .i64 0)), some ((.l 3), true)⟩,⟨.l, .pick (.l 3) (.l 6) (.c (.bool false)), none⟩,⟨.v 5, .take (.l 7), none⟩] (.v 5)
.skip
(.region [⟨.l, .faddr 0 (.v 3), none⟩,⟨.l, .load 1 false (.l 0) false, none⟩,⟨.l, .bin .neq (.l 1) (.c (.int .i64 0)), none⟩,⟨.l, .mov (.l 2), none⟩,⟨.l, .faddr 0 (.v 3), some ((.l 3), true)⟩,⟨.l, .load 1 false (.l 4) false, some ((.l 3), true)⟩,⟨.l, .bin .neq (.l 5) (.c (.int .i64 1)), some ((.l 3), true)⟩,⟨.l, .pick (.l 3) (.l 6) (.c (.bool false)), none⟩,⟨.l, .mov (.l 7), none⟩,⟨.l, .faddr 0 (.v 3), some ((.l 8), true)⟩,⟨.l, .load 1 false (.l 9) false, some ((.l 8), true)⟩,⟨.l, .bin .neq (.l 10) (.c (.int .i64 2)), some ((.l 8), true)⟩,⟨.l, .pick (.l 8) (.l 11) (.c (.bool false)), none⟩,⟨.v 5, .take (.l 12), none⟩]))
(.branch [] (.v 5)
(.seq (.region [⟨.v 4, .take (.c (.int .i64 5)), none⟩])
.ret)
(.branch [⟨.l, .faddr 0 (.v 3), none⟩,⟨.l, .load 1 false (.l 0) false, none⟩,⟨.l, .bin .eql (.l 1) (.c (.int .i64 1)), none⟩,⟨.l, .mov (.l 2), none⟩,⟨.l, .mov (.v 0), some ((.l 3), true)⟩,⟨.l, .mov (.v 1), some ((.l 3), true)⟩,⟨.l, .faddr 1 (.v 3), some ((.l 3), true)⟩,⟨.l, .load 1 false (.l 6) false, some ((.l 3), true)⟩,⟨.l, .pcall 38 [(.l 4), (.l 5), (.l 7)], some ((.l 3), true)⟩,⟨.l, .un .not (.l 8), some ((.l 3), true)⟩,⟨.l, .pick (.l 3) (.l 9) (.c (.bool false)), none⟩,⟨.l, .take (.l 10), none⟩] (.l 11)
(.seq (.region [⟨.v 4, .take (.c (.int .i64 14)), none⟩])
.ret)
.skip))))
(.seq (.region [⟨.v 4, .take (.c (.int .i64 0)), none⟩])
.ret))),
[.var 4], false, none, none⟩
def f_strings_Cut : PFunc := ⟨2, 5,
(.seq (.region [⟨.v 2, .take (.c (.str [])), none⟩,⟨.v 3, .take (.c (.str [])), none⟩,⟨.v 4, .take (.c (.bool false)), none⟩])
(.seq (.region [⟨.l, .mov (.v 0), none⟩,⟨.l, .mov (.v 1), none⟩,⟨.l, .pcall 39 [(.l 0), (.l 1)], none⟩,⟨.l, .extract 0 (.l 2), none⟩,⟨.l, .extract 1 (.l 2), none⟩,⟨.l, .extract 2 (.l 2), none⟩,⟨.v 2, .take (.l 3), none⟩,⟨.v 3, .take (.l 4), none⟩,⟨.v 4, .take (.l 5), none⟩])
.ret)),
[.var 2, .var 3, .var 4], false, none, none⟩
def f_trace_words_l0 : PC := (.loop (.seq (.branch [⟨.v 7, .h (.next (.v 6)), none⟩,⟨.l, .extract 0 (.v 7), none⟩] (.l 1)
.skip
(.exit 0))
(.block 1 (.seq (.region [⟨.l, .extract 1 (.v 7), none⟩,⟨.l, .extract 2 (.v 7), none⟩,⟨.v 4, .take (.l 0), none⟩,⟨.v 5, .take (.l 1), none⟩])
(.branch [⟨.l, .mov (.v 5), none⟩,⟨.l, .bin .eql (.l 0) (.c (.int .i32 32)), none⟩] (.l 1)
(.seq (.region [⟨.l, .take (.v 2), none⟩,⟨.l, .mov (.v 0), none⟩,⟨.l, .mov (.v 3), none⟩,⟨.l, .mov (.v 4), none⟩,⟨.l, .slice true 1 (.l 1) (some (.l 2)) (some (.l 3)), none⟩,⟨.l, .mkslice 1 (.str []) 1 [(0, (.l 4))], none⟩,⟨.l, .append 1 16 (.l 0) (.l 5), none⟩,⟨.v 2, .take (.l 6), none⟩])
(.region [⟨.l, .mov (.v 4), none⟩,⟨.l, .bin .add (.l 0) (.c (.int .i64 1)), none⟩,⟨.v 3, .take (.l 1), none⟩]))
.skip)))))
def f_trace_words : PFunc := ⟨1, 8,
(.seq (.region [⟨.v 1, .take (.c (.list true [])), none⟩])
(.seq (.branch [⟨.l, .mov (.v 0), none⟩,⟨.l, .bin .eql (.l 0) (.c (.str [])), none⟩] (.l 1)
(.seq (.region [⟨.v 1, .take (.c (.list true [])), none⟩])
.ret)
.skip)
(.seq (.region [⟨.v 2, .take (.c (.list true [])), none⟩])
(.seq (.region [⟨.v 3, .take (.c (.int .i64 0)), none⟩])
(.seq (.seq (.region [⟨.l, .mov (.v 0), none⟩,⟨.v 6, .h (.range (.l 0)), none⟩])
(.block 0 f_trace_words_l0))
(.seq (.region [⟨.l, .take (.v 2), none⟩,⟨.l, .mov (.v 0), none⟩,⟨.l, .mov (.v 3), none⟩,⟨.l, .slice true 1 (.l 1) (some (.l 2)) none, none⟩,⟨.l, .mkslice 1 (.str []) 1 [(0, (.l 3))], none⟩,⟨.l, .append 1 16 (.l 0) (.l 4), none⟩,⟨.v 1, .take (.l 5), none⟩])
.ret)))))),
[.var 1], false, none, none⟩
def f_trace_parser_names_l0 : PC := (.loop (.seq (.branch [⟨.l, .bin .lss (.v 7) (.v 6), none⟩] (.l 0)
.skip
(.exit 0))
(.seq (.block 1 (.seq (.region [⟨.l, .iaddrS 1 (.v 5) (.v 7), none⟩,⟨.l, .h (.loadc 1 false (.l 0)), none⟩,⟨.v 4, .take (.l 1), none⟩])
(.seq (.branch [⟨.l, .mov (.v 4), none⟩,⟨.l, .pcall 37 [(.l 0)], none⟩,⟨.l, .un .not (.l 1), none⟩] (.l 2)
(.seq (.region [⟨.v 2, .take (.c (.int .i64 6)), none⟩])
.ret)
.skip)
(.seq (.branch [⟨.l, .mov (.v 3), none⟩,⟨.l, .mov (.v 4), none⟩,⟨.l, .h (.lookup false false false [.s] (.bool false) (.l 0) (.l 1)), none⟩] (.l 2)
(.seq (.region [⟨.v 2, .take (.c (.int .i64 7)), none⟩])
.ret)
.skip)
(.seq (.region [⟨.l, .mov (.v 3), none⟩,⟨.l, .mov (.v 4), none⟩,⟨.n, .h (.mset false [.s] (.l 0) (.l 1) (.c (.bool true))), none⟩])
(.region [⟨.l, .mov (.v 0), none⟩,⟨.l, .mov (.v 0), none⟩,⟨.l, .h (.nilchk (.l 1)), none⟩,⟨.l, .faddr 1 (.l 2), none⟩,⟨.l, .faddr 0 (.l 3), none⟩,⟨.l, .h (.load 1 false (.l 4) true), none⟩,⟨.l, .mov (.v 4), none⟩,⟨.l, .build [.str [], .int .i64 0, .list true []] [(0, 1, (.l 6))], none⟩,⟨.l, .mkslice 3 (.agg [.str [], .int .i64 0, .list true []]) 1 [(0, (.l 7))], none⟩,⟨.l, .h (.happ 3 true 48 (.l 5) (.l 8)), none⟩,⟨.l, .h (.nilchk (.l 0)), none⟩,⟨.l, .faddr 1 (.l 10), none⟩,⟨.l, .faddr 0 (.l 11), none⟩,⟨.n, .h (.store 1 false (.l 12) (.l 9)), none⟩]))))))
(.region [⟨.l, .bin .add (.v 7) (.c (.int .i64 1)), none⟩,⟨.v 7, .mov (.l 0), none⟩]))))
def f_trace_parser_names : PFunc := ⟨2, 8,
(.seq (.region [⟨.v 2, .take (.c (.int .i64 0)), none⟩])
(.seq (.branch [⟨.l, .mov (.v 1), none⟩,⟨.l, .len false (.l 0), none⟩,⟨.l, .bin .gtr (.l 1) (.c (.int .i64 384)), none⟩] (.l 2)
(.seq (.region [⟨.v 2, .take (.c (.int .i64 3)), none⟩])
.ret)
.skip)
(.seq (.region [⟨.l, .h (.mkmap), none⟩,⟨.v 3, .take (.l 0), none⟩])
(.seq (.seq (.region [⟨.v 5, .mov (.v 1), none⟩,⟨.v 6, .len false (.v 5), none⟩,⟨.v 7, .mov (.c (.int .i64 0)), none⟩])
(.block 0 f_trace_parser_names_l0))
(.seq (.region [⟨.v 2, .take (.c (.int .i64 0)), none⟩])
.ret))))),
[.var 2], false, none, none⟩
def f_trace_parser_types_l0 : PC := (.loop (.seq (.branch [⟨.l, .bin .lss (.v 9) (.v 8), none⟩] (.l 0)
.skip
(.exit 0))
(.seq (.block 1 (.seq (.region [⟨.l, .mov (.v 9), none⟩,⟨.l, .iaddrS 1 (.v 7) (.v 9), none⟩,⟨.l, .h (.loadc 1 false (.l 1)), none⟩,⟨.v 3, .take (.l 0), none⟩,⟨.v 4, .take (.l 2), none⟩])
(.seq (.region [⟨.l, .mov (.v 0), none⟩,⟨.l, .h (.nilchk (.l 0)), none⟩,⟨.l, .faddr 0 (.l 1), none⟩,⟨.l, .h (.load 1 false (.l 2) false), none⟩,⟨.l, .mov (.v 4), none⟩,⟨.l, .pcall 40 [(.l 3), (.l 4)], none⟩,⟨.l, .mov (.l 5), none⟩,⟨.l, .extract 0 (.l 6), none⟩,⟨.l, .extract 1 (.l 6), none⟩,⟨.v 5, .take (.l 7), none⟩,⟨.v 6, .take (.l 8), none⟩])
(.seq (.branch [⟨.l, .mov (.v 6), none⟩,⟨.l, .un .not (.l 0), none⟩] (.l 1)
(.seq (.region [⟨.v 2, .take (.c (.int .i64 10)), none⟩])
.ret)
.skip)
(.region [⟨.l, .mov (.v 0), none⟩,⟨.l, .h (.nilchk (.l 0)), none⟩,⟨.l, .faddr 1 (.l 1), none⟩,⟨.l, .faddr 0 (.l 2), none⟩,⟨.l, .h (.load 1 false (.l 3) false), none⟩,⟨.l, .mov (.v 3), none⟩,⟨.l, .mov (.v 5), none⟩,⟨.l, .iaddrS 3 (.l 4) (.l 5), none⟩,⟨.l, .faddr 1 (.l 7), none⟩,⟨.n, .h (.store 1 false (.l 8) (.l 6)), none⟩])))))
(.region [⟨.l, .bin .add (.v 9) (.c (.int .i64 1)), none⟩,⟨.v 9, .mov (.l 0), none⟩]))))
def f_trace_parser_types : PFunc := ⟨2, 10,
(.seq (.region [⟨.v 2, .take (.c (.int .i64 0)), none⟩])
(.seq (.branch [⟨.l, .mov (.v 1), none⟩,⟨.l, .len false (.l 0), none⟩,⟨.l, .mov (.v 0), none⟩,⟨.l, .h (.nilchk (.l 2)), none⟩,⟨.l, .faddr 1 (.l 3), none⟩,⟨.l, .faddr 0 (.l 4), none⟩,⟨.l, .h (.load 1 false (.l 5) false), none⟩,⟨.l, .len false (.l 6), none⟩,⟨.l, .bin .neq (.l 1) (.l 7), none⟩] (.l 8)
(.seq (.region [⟨.v 2, .take (.c (.int .i64 9)), none⟩])
.ret)
.skip)
(.seq (.seq (.region [⟨.v 7, .mov (.v 1), none⟩,⟨.v 8, .len false (.v 7), none⟩,⟨.v 9, .mov (.c (.int .i64 0)), none⟩])
(.block 0 f_trace_parser_types_l0))
(.seq (.region [⟨.v 2, .take (.c (.int .i64 0)), none⟩])
.ret)))),
[.var 2], false, none, none⟩
def f_trace_parser_row_l0 : PC := (.loop (.seq (.branch [⟨.l, .bin .lss (.v 11) (.v 10), none⟩] (.l 0)
.skip
(.exit 0))
(.seq (.block 1 (.seq (.region [⟨.l, .mov (.v 11), none⟩,⟨.l, .iaddrS 1 (.v 9) (.v 11), none⟩,⟨.l, .h (.loadc 1 false (.l 1)), none⟩,⟨.v 4, .take (.l 0), none⟩,⟨.v 5, .take (.l 2), none⟩])
(.seq (.region [⟨.l, .build [.int .i64 0, .int .i64 0] [], none⟩,⟨.v 6, .newloc [.int .i64 0, .int .i64 0], none⟩,⟨.n, .store 2 true (.v 6) (.l 0), none⟩])
(.seq (.seq (.region [⟨.v 12, .mov (.v 5), none⟩])
(.block 2 (.branch [⟨.l, .bin .eql (.v 12) (.c (.str [45])), none⟩,⟨.l, .take (.l 0), none⟩] (.l 1)
.skip
(.branch [⟨.l, .bin .eql (.v 12) (.c (.str [63])), none⟩,⟨.l, .take (.l 0), none⟩] (.l 1)
(.region [⟨.l, .faddr 0 (.v 6), none⟩,⟨.n, .store 1 false (.l 0) (.c (.int .i64 2)), none⟩])
(.seq (.region [⟨.l, .mov (.v 0), none⟩,⟨.l, .h (.nilchk (.l 0)), none⟩,⟨.l, .faddr 0 (.l 1), none⟩,⟨.l, .h (.load 1 false (.l 2) false), none⟩,⟨.l, .mov (.v 0), none⟩,⟨.l, .h (.nilchk (.l 4)), none⟩,⟨.l, .faddr 1 (.l 5), none⟩,⟨.l, .faddr 0 (.l 6), none⟩,⟨.l, .h (.load 1 false (.l 7) false), none⟩,⟨.l, .mov (.v 4), none⟩,⟨.l, .iaddrS 3 (.l 8) (.l 9), none⟩,⟨.l, .faddr 1 (.l 10), none⟩,⟨.l, .h (.load 1 false (.l 11) false), none⟩,⟨.l, .mov (.v 5), none⟩,⟨.l, .pcall 41 [(.l 3), (.l 12), (.l 13)], none⟩,⟨.l, .mov (.l 14), none⟩,⟨.l, .extract 0 (.l 15), none⟩,⟨.l, .extract 1 (.l 15), none⟩,⟨.v 7, .take (.l 16), none⟩,⟨.v 8, .take (.l 17), none⟩])
(.seq (.branch [⟨.l, .mov (.v 8), none⟩,⟨.l, .bin .neq (.l 0) (.c (.int .i64 0)), none⟩] (.l 1)
(.seq (.region [⟨.v 2, .take (.c (.int .i64 5)), none⟩])
.ret)
.skip)
(.region [⟨.l, .mov (.v 7), none⟩,⟨.l, .build [.int .i64 0, .int .i64 0] [(0, 1, (.c (.int .i64 1))), (1, 1, (.l 0))], none⟩,⟨.n, .store 2 true (.v 6) (.l 1), none⟩])))))))
(.region [⟨.l, .take (.v 3), none⟩,⟨.l, .load 2 true (.v 6) false, none⟩,⟨.l, .mkslice 2 (.agg [.int .i64 0, .int .i64 0]) 1 [(0, (.l 1))], none⟩,⟨.l, .append 2 16 (.l 0) (.l 2), none⟩,⟨.v 3, .take (.l 3), none⟩])))))
(.region [⟨.l, .bin .add (.v 11) (.c (.int .i64 1)), none⟩,⟨.v 11, .mov (.l 0), none⟩]))))
def f_trace_parser_row : PFunc := ⟨2, 13,
(.seq (.region [⟨.v 2, .take (.c (.int .i64 0)), none⟩])
(.seq (.branch [⟨.l, .mov (.v 0), none⟩,⟨.l, .h (.nilchk (.l 0)), none⟩,⟨.l, .faddr 1 (.l 1), none⟩,⟨.l, .faddr 1 (.l 2), none⟩,⟨.l, .h (.load 1 false (.l 3) false), none⟩,⟨.l, .len false (.l 4), none⟩,⟨.l, .bin .eql (.l 5) (.c (.int .i64 4096)), none⟩] (.l 6)
(.seq (.region [⟨.v 2, .take (.c (.int .i64 3)), none⟩])
.ret)
.skip)
(.seq (.branch [⟨.l, .mov (.v 1), none⟩,⟨.l, .len false (.l 0), none⟩,⟨.l, .mov (.v 0), none⟩,⟨.l, .h (.nilchk (.l 2)), none⟩,⟨.l, .faddr 1 (.l 3), none⟩,⟨.l, .faddr 0 (.l 4), none⟩,⟨.l, .h (.load 1 false (.l 5) false), none⟩,⟨.l, .len false (.l 6), none⟩,⟨.l, .bin .neq (.l 1) (.l 7), none⟩] (.l 8)
(.seq (.region [⟨.v 2, .take (.c (.int .i64 9)), none⟩])
.ret)
.skip)
(.seq (.region [⟨.v 3, .take (.c (.list true [])), none⟩])
(.seq (.seq (.region [⟨.v 9, .mov (.v 1), none⟩,⟨.v 10, .len false (.v 9), none⟩,⟨.v 11, .mov (.c (.int .i64 0)), none⟩])
(.block 0 f_trace_parser_row_l0))
(.seq (.region [⟨.l, .mov (.v 0), none⟩,⟨.l, .mov (.v 0), none⟩,⟨.l, .h (.nilchk (.l 1)), none⟩,⟨.l, .faddr 1 (.l 2), none⟩,⟨.l, .faddr 1 (.l 3), none⟩,⟨.l, .h (.load 1 false (.l 4) true), none⟩,⟨.l, .mov (.v 3), none⟩,⟨.l, .mkslice 1 (.list true []) 1 [(0, (.l 6))], none⟩,⟨.l, .append 1 24 (.l 5) (.l 7), none⟩,⟨.l, .h (.nilchk (.l 0)), none⟩,⟨.l, .faddr 1 (.l 9), none⟩,⟨.l, .faddr 1 (.l 10), none⟩,⟨.n, .h (.store 1 false (.l 11) (.l 8)), none⟩])
(.seq (.region [⟨.v 2, .take (.c (.int .i64 0)), none⟩])
.ret))))))),
[.var 2], false, none, none⟩
def f_ref03_Ident_l0 : PC := (.loop (.seq (.branch [⟨.l, .mov (.v 2), none⟩,⟨.l, .mov (.v 0), none⟩,⟨.l, .len true (.l 1), none⟩,⟨.l, .bin .lss (.l 0) (.l 2), none⟩] (.l 3)
.skip
(.exit 0))
(.seq (.block 1 (.branch [⟨.l, .mov (.v 0), none⟩,⟨.l, .mov (.v 2), none⟩,⟨.l, .indexStr (.l 0) (.l 1), none⟩,⟨.l, .pcall 43 [(.l 2)], none⟩,⟨.l, .un .not (.l 3), none⟩] (.l 4)
(.seq (.region [⟨.v 1, .take (.c (.bool false)), none⟩])
.ret)
.skip))
(.region [⟨.l, .mov (.v 2), none⟩,⟨.l, .bin .add (.l 0) (.c (.int .i64 1)), none⟩,⟨.v 2, .take (.l 1), none⟩]))))
def f_ref03_Ident : PFunc := ⟨1, 3,
(.seq (.region [⟨.v 1, .take (.c (.bool false)), none⟩])
(.seq (.branch [⟨.l, .mov (.v 0), none⟩,⟨.l, .bin .eql (.l 0) (.c (.str [])), none⟩,⟨.l, .mov (.l 1), none⟩,⟨.l, .mov (.v 0), some ((.l 2), false)⟩,⟨.l, .len true (.l 3), some ((.l 2), false)⟩,⟨.l, .bin .gtr (.l 4) (.c (.int .i64 40)), some ((.l 2), false)⟩,⟨.l, .pick (.l 2) (.c (.bool true)) (.l 5), none⟩,⟨.l, .mov (.l 6), none⟩,⟨.l, .mov (.v 0), some ((.l 7), false)⟩,⟨.l, .indexStr (.l 8) (.c (.int .i64 0)), some ((.l 7), false)⟩,⟨.l, .pcall 42 [(.l 9)], some ((.l 7), false)⟩,⟨.l, .un .not (.l 10), some ((.l 7), false)⟩,⟨.l, .pick (.l 7) (.c (.bool true)) (.l 11), none⟩] (.l 12)
(.seq (.region [⟨.v 1, .take (.c (.bool false)), none⟩])
.ret)
.skip)
(.seq (.seq (.region [⟨.v 2, .take (.c (.int .i64 0)), none⟩])
(.block 0 f_ref03_Ident_l0))
(.seq (.region [⟨.l, .mov (.v 0), none⟩,⟨.l, .pcall 44 [(.l 0)], none⟩,⟨.l, .un .not (.l 1), none⟩,⟨.v 1, .take (.l 2), none⟩])
.ret)))),
[.var 1], false, none, none⟩
def f_value_enum : PFunc := ⟨2, 4,
(.seq (.region [⟨.v 2, .newloc [.str [], .list true []], none⟩,⟨.v 3, .take (.c (.bool false)), none⟩])
(.seq (.branch [⟨.l, .mov (.v 1), none⟩,⟨.l, .bin .lss (.l 0) (.c (.int .i64 3)), none⟩,⟨.l, .mov (.l 1), none⟩,⟨.l, .mov (.v 1), some ((.l 2), false)⟩,⟨.l, .bin .sub (.l 3) (.c (.int .i64 3)), some ((.l 2), false)⟩,⟨.l, .mov (.v 0), some ((.l 2), false)⟩,⟨.l, .len false (.l 5), some ((.l 2), false)⟩,⟨.l, .bin .geq (.l 4) (.l 6), some ((.l 2), false)⟩,⟨.l, .pick (.l 2) (.c (.bool true)) (.l 7), none⟩] (.l 8)
(.seq (.region [⟨.l, .build [.str [], .list true []] [], none⟩,⟨.n, .store 2 true (.v 2) (.l 0), none⟩,⟨.v 3, .take (.c (.bool false)), none⟩])
.ret)
.skip)
(.seq (.region [⟨.l, .mov (.v 0), none⟩,⟨.l, .mov (.v 1), none⟩,⟨.l, .bin .sub (.l 1) (.c (.int .i64 3)), none⟩,⟨.l, .iaddrS 2 (.l 0) (.l 2), none⟩,⟨.l, .h (.loadc 2 true (.l 3)), none⟩,⟨.n, .store 2 true (.v 2) (.l 4), none⟩,⟨.v 3, .take (.c (.bool true)), none⟩])
.ret))),
[.cell 2 2 true, .var 3], false, none, none⟩
def f_strings_Builder_WriteString : PFunc := { params := 2, nv := 2, code := .skip, results := [], prim := some pWriteString }
def f_strings_Join : PFunc := { params := 2, nv := 2, code := .skip, results := [], prim := some pJoin }
def f_value_Text : PFunc := ⟨3, 5,
(.seq (.region [⟨.v 3, .take (.c (.str [])), none⟩,⟨.v 4, .take (.c (.int .i64 0)), none⟩])
(.seq (.block 0 (.branch [⟨.l, .mov (.v 0), none⟩,⟨.l, .mov (.v 1), none⟩,⟨.l, .pcall 45 [(.l 0), (.l 1)], none⟩,⟨.l, .un .not (.l 2), none⟩,⟨.l, .take (.l 3), none⟩] (.l 4)
(.seq (.region [⟨.v 3, .take (.c (.str [])), none⟩,⟨.v 4, .take (.c (.int .i64 10)), none⟩])
.ret)
(.branch [⟨.l, .mov (.v 0), none⟩,⟨.l, .mov (.v 1), none⟩,⟨.l, .mov (.v 2), none⟩,⟨.l, .pcall 38 [(.l 0), (.l 1), (.l 2)], none⟩,⟨.l, .un .not (.l 3), none⟩,⟨.l, .take (.l 4), none⟩] (.l 5)
(.seq (.region [⟨.v 3, .take (.c (.str [])), none⟩,⟨.v 4, .take (.c (.int .i64 14)), none⟩])
.ret)
(.branch [⟨.l, .mov (.v 1), none⟩,⟨.l, .bin .eql (.l 0) (.c (.int .i64 1)), none⟩,⟨.l, .take (.l 1), none⟩] (.l 2)
(.seq (.region [⟨.l, .mov (.v 2), none⟩,⟨.l, .bin .eql (.l 0) (.c (.int .i64 1)), none⟩,⟨.l, .pcall 46 [(.l 1)], none⟩,⟨.v 3, .take (.l 2), none⟩,⟨.v 4, .take (.c (.int .i64 0)), none⟩])
.ret)
(.branch [⟨.l, .mov (.v 1), none⟩,⟨.l, .bin .eql (.l 0) (.c (.int .i64 2)), none⟩,⟨.l, .take (.l 1), none⟩] (.l 2)
(.seq (.region [⟨.l, .mov (.v 2), none⟩,⟨.l, .pcall 47 [(.l 0)], none⟩,⟨.v 3, .take (.l 1), none⟩,⟨.v 4, .take (.c (.int .i64 0)), none⟩])
.ret)
.skip)))))
(.seq (.region [⟨.l, .mov (.v 0), none⟩,⟨.l, .mov (.v 1), none⟩,⟨.l, .bin .sub (.l 1) (.c (.int .i64 3)), none⟩,⟨.l, .iaddrS 2 (.l 0) (.l 2), none⟩,⟨.l, .faddr 1 (.l 3), none⟩,⟨.l, .h (.loadc 1 false (.l 4)), none⟩,⟨.l, .mov (.v 2), none⟩,⟨.l, .iaddrS 1 (.l 5) (.l 6), none⟩,⟨.l, .h (.loadc 1 false (.l 7)), none⟩,⟨.v 3, .take (.l 8), none⟩,⟨.v 4, .take (.c (.int .i64 0)), none⟩])
.ret))),
[.var 3, .var 4], false, none, none⟩
def f_lex_Ident_l0 : PC := (.loop (.seq (.branch [⟨.l, .bin .lss (.v 4) (.v 3), none⟩] (.l 0)
.skip
(.exit 0))
(.seq (.block 1 (.seq (.region [⟨.l, .mov (.v 4), none⟩,⟨.v 2, .take (.l 0), none⟩])
(.branch [⟨.l, .mov (.v 0), none⟩,⟨.l, .mov (.v 2), none⟩,⟨.l, .indexStr (.l 0) (.l 1), none⟩,⟨.l, .pcall 50 [(.l 2)], none⟩,⟨.l, .un .not (.l 3), none⟩] (.l 4)
(.seq (.region [⟨.v 1, .take (.c (.bool false)), none⟩])
.ret)
.skip)))
(.region [⟨.l, .bin .add (.v 4) (.c (.int .i64 1)), none⟩,⟨.v 4, .mov (.l 0), none⟩]))))
def f_lex_Ident : PFunc := ⟨1, 5,
(.seq (.region [⟨.v 1, .take (.c (.bool false)), none⟩])
(.seq (.branch [⟨.l, .mov (.v 0), none⟩,⟨.l, .bin .eql (.l 0) (.c (.str [])), none⟩,⟨.l, .mov (.l 1), none⟩,⟨.l, .mov (.v 0), some ((.l 2), false)⟩,⟨.l, .len true (.l 3), some ((.l 2), false)⟩,⟨.l, .bin .gtr (.l 4) (.c (.int .i64 40)), some ((.l 2), false)⟩,⟨.l, .pick (.l 2) (.c (.bool true)) (.l 5), none⟩,⟨.l, .mov (.l 6), none⟩,⟨.l, .mov (.v 0), some ((.l 7), false)⟩,⟨.l, .indexStr (.l 8) (.c (.int .i64 0)), some ((.l 7), false)⟩,⟨.l, .pcall 48 [(.l 9)], some ((.l 7), false)⟩,⟨.l, .un .not (.l 10), some ((.l 7), false)⟩,⟨.l, .pick (.l 7) (.c (.bool true)) (.l 11), none⟩,⟨.l, .mov (.l 12), none⟩,⟨.l, .mov (.v 0), some ((.l 13), false)⟩,⟨.l, .pcall 49 [(.l 14)], some ((.l 13), false)⟩,⟨.l, .pick (.l 13) (.c (.bool true)) (.l 15), none⟩] (.l 16)
(.seq (.region [⟨.v 1, .take (.c (.bool false)), none⟩])
.ret)
.skip)
(.seq (.seq (.region [⟨.l, .mov (.v 0), none⟩,⟨.v 3, .len true (.l 0), none⟩,⟨.v 4, .mov (.c (.int .i64 0)), none⟩])
(.block 0 f_lex_Ident_l0))
(.seq (.region [⟨.v 1, .take (.c (.bool true)), none⟩])
.ret)))),
[.var 1], false, none, none⟩
def f_value_Has : PFunc := ⟨3, 4,
(.seq (.region [⟨.v 3, .take (.c (.bool false)), none⟩])
(.seq (.branch [⟨.l, .mov (.v 1), none⟩,⟨.l, .bin .eql (.l 0) (.c (.int .i64 2)), none⟩] (.l 1)
(.seq (.region [⟨.l, .mov (.v 2), none⟩,⟨.l, .pcall 51 [(.l 0)], none⟩,⟨.v 3, .take (.l 1), none⟩])
.ret)
.skip)
(.seq (.region [⟨.l, .mov (.v 2), none⟩,⟨.l, .bin .geq (.l 0) (.c (.int .i64 0)), none⟩,⟨.l, .mov (.l 1), none⟩,⟨.l, .mov (.v 2), some ((.l 2), true)⟩,⟨.l, .mov (.v 0), some ((.l 2), true)⟩,⟨.l, .mov (.v 1), some ((.l 2), true)⟩,⟨.l, .pcall 52 [(.l 4), (.l 5)], some ((.l 2), true)⟩,⟨.l, .bin .lss (.l 3) (.l 6), some ((.l 2), true)⟩,⟨.l, .pick (.l 2) (.l 7) (.c (.bool false)), none⟩,⟨.v 3, .take (.l 8), none⟩])
.ret))),
[.var 3], false, none, none⟩
def f_internal_stringslite_Cut : PFunc := ⟨2, 6,
(.seq (.region [⟨.v 2, .take (.c (.str [])), none⟩,⟨.v 3, .take (.c (.str [])), none⟩,⟨.v 4, .take (.c (.bool false)), none⟩])
(.seq (.seq (.region [⟨.l, .mov (.v 0), none⟩,⟨.l, .mov (.v 1), none⟩,⟨.l, .pcall 53 [(.l 0), (.l 1)], none⟩,⟨.v 5, .take (.l 2), none⟩])
(.branch [⟨.l, .mov (.v 5), none⟩,⟨.l, .bin .geq (.l 0) (.c (.int .i64 0)), none⟩] (.l 1)
(.seq (.region [⟨.l, .mov (.v 0), none⟩,⟨.l, .mov (.v 5), none⟩,⟨.l, .slice true 1 (.l 0) none (some (.l 1)), none⟩,⟨.l, .mov (.v 0), none⟩,⟨.l, .mov (.v 5), none⟩,⟨.l, .mov (.v 1), none⟩,⟨.l, .len true (.l 5), none⟩,⟨.l, .bin .add (.l 4) (.l 6), none⟩,⟨.l, .slice true 1 (.l 3) (some (.l 7)) none, none⟩,⟨.v 2, .take (.l 2), none⟩,⟨.v 3, .take (.l 8), none⟩,⟨.v 4, .take (.c (.bool true)), none⟩])
.ret)
.skip))
(.seq (.region [⟨.l, .mov (.v 0), none⟩,⟨.v 2, .take (.l 0), none⟩,⟨.v 3, .take (.c (.str [])), none⟩,⟨.v 4, .take (.c (.bool false)), none⟩])
.ret))),
[.var 2, .var 3, .var 4], false, none, none⟩
def f_value_Type_l0 : PC := (.loop (.seq (.branch [⟨.l, .bin .lss (.v 9) (.v 8), none⟩] (.l 0)
.skip
(.exit 1))
(.seq (.block 2 (.seq (.region [⟨.l, .mov (.v 9), none⟩,⟨.l, .iaddrS 2 (.v 7) (.v 9), none⟩,⟨.l, .h (.loadc 2 true (.l 1)), none⟩,⟨.v 5, .newloc [.str [], .list true []], none⟩,⟨.v 4, .take (.l 0), none⟩,⟨.n, .store 2 true (.v 5) (.l 2), none⟩])
(.branch [⟨.l, .faddr 0 (.v 5), none⟩,⟨.l, .load 1 false (.l 0) false, none⟩,⟨.l, .mov (.v 1), none⟩,⟨.l, .bin .eql (.l 1) (.l 2), none⟩] (.l 3)
(.seq (.region [⟨.l, .mov (.v 4), none⟩,⟨.l, .bin .add (.c (.int .i64 3)) (.l 0), none⟩,⟨.v 2, .take (.l 1), none⟩,⟨.v 3, .take (.c (.bool true)), none⟩])
.ret)
.skip)))
(.region [⟨.l, .bin .add (.v 9) (.c (.int .i64 1)), none⟩,⟨.v 9, .mov (.l 0), none⟩]))))
def f_value_Type : PFunc := ⟨2, 10,
(.seq (.region [⟨.v 2, .take (.c (.int .i64 0)), none⟩,⟨.v 3, .take (.c (.bool false)), none⟩])
(.seq (.seq (.region [⟨.v 6, .mov (.v 1), none⟩])
(.block 0 (.branch [⟨.l, .bin .eql (.v 6) (.c (.str [98, 111, 111, 108])), none⟩,⟨.l, .take (.l 0), none⟩] (.l 1)
(.seq (.region [⟨.v 2, .take (.c (.int .i64 1)), none⟩,⟨.v 3, .take (.c (.bool true)), none⟩])
.ret)
(.branch [⟨.l, .bin .eql (.v 6) (.c (.str [105, 110, 116])), none⟩,⟨.l, .take (.l 0), none⟩] (.l 1)
(.seq (.region [⟨.v 2, .take (.c (.int .i64 2)), none⟩,⟨.v 3, .take (.c (.bool true)), none⟩])
.ret)
.skip))))
(.seq (.seq (.region [⟨.v 7, .mov (.v 0), none⟩,⟨.v 8, .len false (.v 7), none⟩,⟨.v 9, .mov (.c (.int .i64 0)), none⟩])
(.block 1 f_value_Type_l0))
(.seq (.region [⟨.v 2, .take (.c (.int .i64 0)), none⟩,⟨.v 3, .take (.c (.bool false)), none⟩])
.ret)))),
[.var 2, .var 3], false, none, none⟩
def f_value_Parse_l0 : PC := (.loop (.seq (.branch [⟨.l, .bin .lss (.v 11) (.v 10), none⟩] (.l 0)
.skip
(.exit 1))
(.seq (.block 2 (.seq (.region [⟨.l, .mov (.v 11), none⟩,⟨.v 7, .take (.l 0), none⟩])
(.seq (.region [⟨.l, .mov (.v 0), none⟩,⟨.l, .mov (.v 1), none⟩,⟨.l, .mov (.v 7), none⟩,⟨.l, .pcall 36 [(.l 0), (.l 1), (.l 2)], none⟩,⟨.l, .mov (.l 3), none⟩,⟨.l, .extract 0 (.l 4), none⟩,⟨.l, .extract 1 (.l 4), none⟩,⟨.v 8, .take (.l 5), none⟩,⟨.v 9, .take (.l 6), none⟩])
(.branch [⟨.l, .mov (.v 9), none⟩,⟨.l, .bin .eql (.l 0) (.c (.int .i64 0)), none⟩,⟨.l, .mov (.l 1), none⟩,⟨.l, .mov (.v 8), some ((.l 2), true)⟩,⟨.l, .mov (.v 2), some ((.l 2), true)⟩,⟨.l, .bin .eql (.l 3) (.l 4), some ((.l 2), true)⟩,⟨.l, .pick (.l 2) (.l 5) (.c (.bool false)), none⟩] (.l 6)
(.seq (.region [⟨.l, .mov (.v 7), none⟩,⟨.v 3, .take (.l 0), none⟩,⟨.v 4, .take (.c (.int .i64 0)), none⟩])
.ret)
.skip))))
(.region [⟨.l, .bin .add (.v 11) (.c (.int .i64 1)), none⟩,⟨.v 11, .mov (.l 0), none⟩]))))
def f_value_Parse : PFunc := ⟨3, 12,
(.seq (.region [⟨.v 3, .take (.c (.int .i64 0)), none⟩,⟨.v 4, .take (.c (.int .i64 0)), none⟩])
(.seq (.block 0 (.branch [⟨.l, .mov (.v 0), none⟩,⟨.l, .mov (.v 1), none⟩,⟨.l, .pcall 45 [(.l 0), (.l 1)], none⟩,⟨.l, .un .not (.l 2), none⟩,⟨.l, .take (.l 3), none⟩] (.l 4)
(.seq (.region [⟨.v 3, .take (.c (.int .i64 0)), none⟩,⟨.v 4, .take (.c (.int .i64 10)), none⟩])
.ret)
(.branch [⟨.l, .mov (.v 1), none⟩,⟨.l, .bin .eql (.l 0) (.c (.int .i64 2)), none⟩,⟨.l, .take (.l 1), none⟩] (.l 2)
(.seq (.region [⟨.l, .mov (.v 2), none⟩,⟨.l, .h (.call 54 [(.l 0)]), none⟩,⟨.l, .mov (.l 1), none⟩,⟨.l, .extract 0 (.l 2), none⟩,⟨.l, .extract 1 (.l 2), none⟩,⟨.v 5, .take (.l 3), none⟩,⟨.v 6, .take (.l 4), none⟩])
(.seq (.branch [⟨.l, .mov (.v 6), none⟩,⟨.l, .h (.isnil 4 true (.l 0)), none⟩,⟨.l, .mov (.l 1), none⟩,⟨.l, .mov (.v 5), some ((.l 2), false)⟩,⟨.l, .pcall 51 [(.l 3)], some ((.l 2), false)⟩,⟨.l, .un .not (.l 4), some ((.l 2), false)⟩,⟨.l, .pick (.l 2) (.c (.bool true)) (.l 5), none⟩,⟨.l, .mov (.l 6), none⟩,⟨.l, .mov (.v 5), some ((.l 7), false)⟩,⟨.l, .pcall 47 [(.l 8)], some ((.l 7), false)⟩,⟨.l, .mov (.v 2), some ((.l 7), false)⟩,⟨.l, .bin .neq (.l 9) (.l 10), some ((.l 7), false)⟩,⟨.l, .pick (.l 7) (.c (.bool true)) (.l 11), none⟩] (.l 12)
(.seq (.region [⟨.v 3, .take (.c (.int .i64 0)), none⟩,⟨.v 4, .take (.c (.int .i64 5)), none⟩])
.ret)
.skip)
(.seq (.region [⟨.l, .mov (.v 5), none⟩,⟨.v 3, .take (.l 0), none⟩,⟨.v 4, .take (.c (.int .i64 0)), none⟩])
.ret)))
.skip)))
(.seq (.seq (.region [⟨.l, .mov (.v 0), none⟩,⟨.l, .mov (.v 1), none⟩,⟨.v 10, .pcall 52 [(.l 0), (.l 1)], none⟩,⟨.v 11, .mov (.c (.int .i64 0)), none⟩])
(.block 1 f_value_Parse_l0))
(.seq (.region [⟨.v 3, .take (.c (.int .i64 0)), none⟩,⟨.v 4, .take (.c (.int .i64 5)), none⟩])
.ret)))),
[.var 3, .var 4], false, none, none⟩
def f_ref03_Letter : PFunc := ⟨1, 2,
(.seq (.region [⟨.v 1, .take (.c (.bool false)), none⟩])
(.seq (.region [⟨.l, .mov (.v 0), none⟩,⟨.l, .bin .geq (.l 0) (.c (.int .u8 97)), none⟩,⟨.l, .mov (.l 1), none⟩,⟨.l, .mov (.v 0), some ((.l 2), true)⟩,⟨.l, .bin .leq (.l 3) (.c (.int .u8 122)), some ((.l 2), true)⟩,⟨.l, .pick (.l 2) (.l 4) (.c (.bool false)), none⟩,⟨.l, .mov (.l 5), none⟩,⟨.l, .mov (.v 0), some ((.l 6), false)⟩,⟨.l, .bin .geq (.l 7) (.c (.int .u8 65)), some ((.l 6), false)⟩,⟨.l, .mov (.l 8), some ((.l 6), false)⟩,⟨.l, .mov (.v 0), some ((.l 9), true)⟩,⟨.l, .bin .leq (.l 10) (.c (.int .u8 90)), some ((.l 9), true)⟩,⟨.l, .pick (.l 9) (.l 11) (.c (.bool false)), some ((.l 6), false)⟩,⟨.l, .pick (.l 6) (.c (.bool true)) (.l 12), none⟩,⟨.v 1, .take (.l 13), none⟩])
.ret)),
[.var 1], false, none, none⟩
def f_ref03_inner : PFunc := ⟨1, 2,
(.seq (.region [⟨.v 1, .take (.c (.bool false)), none⟩])
(.seq (.region [⟨.l, .mov (.v 0), none⟩,⟨.l, .pcall 42 [(.l 0)], none⟩,⟨.l, .mov (.l 1), none⟩,⟨.l, .mov (.v 0), some ((.l 2), false)⟩,⟨.l, .pcall 55 [(.l 3)], some ((.l 2), false)⟩,⟨.l, .pick (.l 2) (.c (.bool true)) (.l 4), none⟩,⟨.l, .mov (.l 5), none⟩,⟨.l, .mov (.v 0), some ((.l 6), false)⟩,⟨.l, .bin .eql (.l 7) (.c (.int .u8 95)), some ((.l 6), false)⟩,⟨.l, .pick (.l 6) (.c (.bool true)) (.l 8), none⟩,⟨.v 1, .take (.l 9), none⟩])
.ret)),
[.var 1], false, none, none⟩
def f_ref03_Keyword_l0 : PC := (.loop (.seq (.branch [⟨.l, .mov (.v 3), none⟩,⟨.l, .mov (.v 2), none⟩,⟨.l, .len false (.l 1), none⟩,⟨.l, .bin .lss (.l 0) (.l 2), none⟩] (.l 3)
.skip
(.exit 0))
(.seq (.block 1 (.branch [⟨.l, .mov (.v 2), none⟩,⟨.l, .mov (.v 3), none⟩,⟨.l, .iaddrS 1 (.l 0) (.l 1), none⟩,⟨.l, .h (.loadc 1 false (.l 2)), none⟩,⟨.l, .mov (.v 0), none⟩,⟨.l, .bin .eql (.l 3) (.l 4), none⟩] (.l 5)
(.seq (.region [⟨.v 1, .take (.c (.bool true)), none⟩])
.ret)
.skip))
(.region [⟨.l, .mov (.v 3), none⟩,⟨.l, .bin .add (.l 0) (.c (.int .i64 1)), none⟩,⟨.v 3, .take (.l 1), none⟩]))))
def f_ref03_Keyword : PFunc := ⟨1, 4,
(.seq (.region [⟨.v 1, .take (.c (.bool false)), none⟩])
(.seq (.region [⟨.l, .pcall 56 [], none⟩,⟨.v 2, .take (.l 0), none⟩])
(.seq (.seq (.region [⟨.v 3, .take (.c (.int .i64 0)), none⟩])
(.block 0 f_ref03_Keyword_l0))
(.seq (.region [⟨.v 1, .take (.c (.bool false)), none⟩])
.ret)))),
[.var 1], false, none, none⟩
def f_value_valid : PFunc := ⟨2, 4,
(.seq (.region [⟨.v 2, .take (.c (.bool false)), none⟩])
(.seq (.region [⟨.l, .mov (.v 0), none⟩,⟨.l, .mov (.v 1), none⟩,⟨.l, .pcall 20 [(.l 0), (.l 1)], none⟩,⟨.l, .mov (.l 2), none⟩,⟨.l, .extract 0 (.l 3), none⟩,⟨.l, .extract 1 (.l 3), none⟩,⟨.l, .take (.l 4), none⟩,⟨.v 3, .take (.l 5), none⟩])
(.seq (.region [⟨.l, .mov (.v 3), none⟩,⟨.v 2, .take (.l 0), none⟩])
.ret))),
[.var 2], false, none, none⟩
def f_strconv_FormatBool : PFunc := ⟨1, 2,
(.seq (.region [⟨.v 1, .take (.c (.str [])), none⟩])
(.seq (.region [⟨.l, .mov (.v 0), none⟩,⟨.l, .pcall 57 [(.l 0)], none⟩,⟨.v 1, .take (.l 1), none⟩])
.ret)),
[.var 1], false, none, none⟩
def f_strconv_Itoa : PFunc := { params := 1, nv := 1, code := .skip, results := [], prim := some pItoa }
def f_lex_letter : PFunc := ⟨1, 2,
(.seq (.region [⟨.v 1, .take (.c (.bool false)), none⟩])
(.seq (.region [⟨.l, .mov (.v 0), none⟩,⟨.l, .bin .geq (.l 0) (.c (.int .u8 97)), none⟩,⟨.l, .mov (.l 1), none⟩,⟨.l, .mov (.v 0), some ((.l 2), true)⟩,⟨.l, .bin .leq (.l 3) (.c (.int .u8 122)), some ((.l 2), true)⟩,⟨.l, .pick (.l 2) (.l 4) (.c (.bool false)), none⟩,⟨.l, .mov (.l 5), none⟩,⟨.l, .mov (.v 0), some ((.l 6), false)⟩,⟨.l, .bin .geq (.l 7) (.c (.int .u8 65)), some ((.l 6), false)⟩,⟨.l, .mov (.l 8), some ((.l 6), false)⟩,⟨.l, .mov (.v 0), some ((.l 9), true)⟩,⟨.l, .bin .leq (.l 10) (.c (.int .u8 90)), some ((.l 9), true)⟩,⟨.l, .pick (.l 9) (.l 11) (.c (.bool false)), some ((.l 6), false)⟩,⟨.l, .pick (.l 6) (.c (.bool true)) (.l 12), none⟩,⟨.v 1, .take (.l 13), none⟩])
.ret)),
[.var 1], false, none, none⟩
def f_lex_Keyword : PFunc := ⟨1, 4,
(.seq (.region [⟨.v 1, .take (.c (.bool false)), none⟩])
(.seq (.seq (.region [⟨.v 2, .mov (.v 0), none⟩])
(.block 0 (.seq (.branch [⟨.l, .bin .eql (.v 2) (.c (.str [97, 115, 115, 117, 109, 101])), none⟩,⟨.v 3, .take (.l 0), none⟩] (.v 3)
.skip
(.branch [⟨.l, .bin .eql (.v 2) (.c (.str [97, 110, 100])), none⟩,⟨.v 3, .take (.l 0), none⟩] (.v 3)
.skip
(.branch [⟨.l, .bin .eql (.v 2) (.c (.str [97, 117, 116, 111, 109, 97, 116, 111, 110])), none⟩,⟨.v 3, .take (.l 0), none⟩] (.v 3)
.skip
(.branch [⟨.l, .bin .eql (.v 2) (.c (.str [98, 111, 111, 108])), none⟩,⟨.v 3, .take (.l 0), none⟩] (.v 3)
.skip
(.branch [⟨.l, .bin .eql (.v 2) (.c (.str [99, 111, 110, 116, 105, 110, 117, 101])), none⟩,⟨.v 3, .take (.l 0), none⟩] (.v 3)
.skip
(.branch [⟨.l, .bin .eql (.v 2) (.c (.str [100, 111])), none⟩,⟨.v 3, .take (.l 0), none⟩] (.v 3)
.skip
(.branch [⟨.l, .bin .eql (.v 2) (.c (.str [100, 111, 110, 101])), none⟩,⟨.v 3, .take (.l 0), none⟩] (.v 3)
.skip
(.branch [⟨.l, .bin .eql (.v 2) (.c (.str [101, 108, 115, 101])), none⟩,⟨.v 3, .take (.l 0), none⟩] (.v 3)
.skip
(.branch [⟨.l, .bin .eql (.v 2) (.c (.str [101, 110, 100])), none⟩,⟨.v 3, .take (.l 0), none⟩] (.v 3)
.skip
(.branch [⟨.l, .bin .eql (.v 2) (.c (.str [101, 110, 115, 117, 114, 101])), none⟩,⟨.v 3, .take (.l 0), none⟩] (.v 3)
.skip
(.branch [⟨.l, .bin .eql (.v 2) (.c (.str [101, 118, 101, 114, 121])), none⟩,⟨.v 3, .take (.l 0), none⟩] (.v 3)
.skip
(.branch [⟨.l, .bin .eql (.v 2) (.c (.str [102, 97, 108, 115, 101])), none⟩,⟨.v 3, .take (.l 0), none⟩] (.v 3)
.skip
(.branch [⟨.l, .bin .eql (.v 2) (.c (.str [102, 98, 121])), none⟩,⟨.v 3, .take (.l 0), none⟩] (.v 3)
.skip
(.branch [⟨.l, .bin .eql (.v 2) (.c (.str [105, 102])), none⟩,⟨.v 3, .take (.l 0), none⟩] (.v 3)
.skip
(.branch [⟨.l, .bin .eql (.v 2) (.c (.str [105, 110, 116])), none⟩,⟨.v 3, .take (.l 0), none⟩] (.v 3)
.skip
(.branch [⟨.l, .bin .eql (.v 2) (.c (.str [108, 101, 116])), none⟩,⟨.v 3, .take (.l 0), none⟩] (.v 3)
.skip
(.branch [⟨.l, .bin .eql (.v 2) (.c (.str [109, 101, 114, 103, 101])), none⟩,⟨.v 3, .take (.l 0), none⟩] (.v 3)
.skip
(.branch [⟨.l, .bin .eql (.v 2) (.c (.str [109, 111, 100])), none⟩,⟨.v 3, .take (.l 0), none⟩] (.v 3)
.skip
(.branch [⟨.l, .bin .eql (.v 2) (.c (.str [110, 111, 100, 101])), none⟩,⟨.v 3, .take (.l 0), none⟩] (.v 3)
.skip
(.branch [⟨.l, .bin .eql (.v 2) (.c (.str [110, 111, 116])), none⟩,⟨.v 3, .take (.l 0), none⟩] (.v 3)
.skip
(.branch [⟨.l, .bin .eql (.v 2) (.c (.str [111, 114])), none⟩,⟨.v 3, .take (.l 0), none⟩] (.v 3)
.skip
(.branch [⟨.l, .bin .eql (.v 2) (.c (.str [112, 114, 101])), none⟩,⟨.v 3, .take (.l 0), none⟩] (.v 3)
.skip
(.branch [⟨.l, .bin .eql (.v 2) (.c (.str [114, 101, 116, 117, 114, 110, 115])), none⟩,⟨.v 3, .take (.l 0), none⟩] (.v 3)
.skip
(.branch [⟨.l, .bin .eql (.v 2) (.c (.str [115, 116, 97, 116, 101])), none⟩,⟨.v 3, .take (.l 0), none⟩] (.v 3)
.skip
(.branch [⟨.l, .bin .eql (.v 2) (.c (.str [116, 101, 108])), none⟩,⟨.v 3, .take (.l 0), none⟩] (.v 3)
.skip
(.branch [⟨.l, .bin .eql (.v 2) (.c (.str [116, 104, 101, 110])), none⟩,⟨.v 3, .take (.l 0), none⟩] (.v 3)
.skip
(.branch [⟨.l, .bin .eql (.v 2) (.c (.str [116, 114, 117, 101])), none⟩,⟨.v 3, .take (.l 0), none⟩] (.v 3)
.skip
(.branch [⟨.l, .bin .eql (.v 2) (.c (.str [116, 121, 112, 101])), none⟩,⟨.v 3, .take (.l 0), none⟩] (.v 3)
.skip
(.branch [⟨.l, .bin .eql (.v 2) (.c (.str [117, 110, 108, 101, 115, 115])), none⟩,⟨.v 3, .take (.l 0), none⟩] (.v 3)
.skip
(.branch [⟨.l, .bin .eql (.v 2) (.c (.str [117, 110, 116, 105, 108])), none⟩,⟨.v 3, .take (.l 0), none⟩] (.v 3)
.skip
(.branch [⟨.l, .bin .eql (.v 2) (.c (.str [118, 97, 114])), none⟩,⟨.v 3, .take (.l 0), none⟩] (.v 3)
.skip
(.branch [⟨.l, .bin .eql (.v 2) (.c (.str [119, 104, 101, 110])), none⟩,⟨.v 3, .take (.l 0), none⟩] (.v 3)
.skip
(.region [⟨.l, .bin .eql (.v 2) (.c (.str [120, 111, 114])), none⟩,⟨.v 3, .take (.l 0), none⟩])))))))))))))))))))))))))))))))))
(.branch [] (.v 3)
(.seq (.region [⟨.v 1, .take (.c (.bool true)), none⟩])
.ret)
.skip))))
(.seq (.region [⟨.v 1, .take (.c (.bool false)), none⟩])
.ret))),
[.var 1], false, none, none⟩
def f_lex_inner : PFunc := ⟨1, 2,
(.seq (.region [⟨.v 1, .take (.c (.bool false)), none⟩])
(.seq (.region [⟨.l, .mov (.v 0), none⟩,⟨.l, .pcall 48 [(.l 0)], none⟩,⟨.l, .mov (.l 1), none⟩,⟨.l, .mov (.v 0), some ((.l 2), false)⟩,⟨.l, .pcall 58 [(.l 3)], some ((.l 2), false)⟩,⟨.l, .pick (.l 2) (.c (.bool true)) (.l 4), none⟩,⟨.l, .mov (.l 5), none⟩,⟨.l, .mov (.v 0), some ((.l 6), false)⟩,⟨.l, .bin .eql (.l 7) (.c (.int .u8 95)), some ((.l 6), false)⟩,⟨.l, .pick (.l 6) (.c (.bool true)) (.l 8), none⟩,⟨.v 1, .take (.l 9), none⟩])
.ret)),
[.var 1], false, none, none⟩
def f_word_In : PFunc := ⟨1, 2,
(.seq (.region [⟨.v 1, .take (.c (.bool false)), none⟩])
(.seq (.region [⟨.l, .mov (.v 0), none⟩,⟨.l, .bin .leq (.c (.int .i64 (-32768))) (.l 0), none⟩,⟨.l, .mov (.l 1), none⟩,⟨.l, .mov (.v 0), some ((.l 2), true)⟩,⟨.l, .bin .leq (.l 3) (.c (.int .i64 32767)), some ((.l 2), true)⟩,⟨.l, .pick (.l 2) (.l 4) (.c (.bool false)), none⟩,⟨.v 1, .take (.l 5), none⟩])
.ret)),
[.var 1], false, none, none⟩
def f_value_Size : PFunc := ⟨2, 5,
(.seq (.region [⟨.v 2, .take (.c (.int .i64 0)), none⟩])
(.seq (.seq (.region [⟨.v 4, .mov (.v 1), none⟩])
(.block 0 (.branch [⟨.l, .bin .eql (.v 4) (.c (.int .i64 1)), none⟩,⟨.l, .take (.l 0), none⟩] (.l 1)
(.seq (.region [⟨.v 2, .take (.c (.int .i64 2)), none⟩])
.ret)
(.branch [⟨.l, .bin .eql (.v 4) (.c (.int .i64 2)), none⟩,⟨.l, .take (.l 0), none⟩] (.l 1)
(.seq (.region [⟨.v 2, .take (.c (.int .i64 65536)), none⟩])
.ret)
.skip))))
(.seq (.region [⟨.l, .mov (.v 0), none⟩,⟨.l, .mov (.v 1), none⟩,⟨.l, .pcall 33 [(.l 0), (.l 1)], none⟩,⟨.l, .mov (.l 2), none⟩,⟨.l, .extract 0 (.l 3), none⟩,⟨.l, .extract 1 (.l 3), none⟩,⟨.v 3, .newloc [.str [], .list true []], none⟩,⟨.n, .store 2 true (.v 3) (.l 4), none⟩,⟨.l, .take (.l 5), none⟩])
(.seq (.region [⟨.l, .faddr 1 (.v 3), none⟩,⟨.l, .load 1 false (.l 0) false, none⟩,⟨.l, .len false (.l 1), none⟩,⟨.v 2, .take (.l 2), none⟩])
.ret)))),
[.var 2], false, none, none⟩
def f_internal_stringslite_Index_l0 : PC := (.loop (.seq (.branch [⟨.l, .mov (.v 6), none⟩,⟨.l, .mov (.v 7), none⟩,⟨.l, .bin .lss (.l 0) (.l 1), none⟩] (.l 2)
.skip
(.exit 1))
(.block 2 (.seq (.branch [⟨.l, .mov (.v 0), none⟩,⟨.l, .mov (.v 6), none⟩,⟨.l, .indexStr (.l 0) (.l 1), none⟩,⟨.l, .mov (.v 4), none⟩,⟨.l, .bin .neq (.l 2) (.l 3), none⟩] (.l 4)
(.seq (.region [⟨.l, .mov (.v 0), none⟩,⟨.l, .mov (.v 6), none⟩,⟨.l, .bin .add (.l 1) (.c (.int .i64 1)), none⟩,⟨.l, .mov (.v 7), none⟩,⟨.l, .slice true 1 (.l 0) (some (.l 2)) (some (.l 3)), none⟩,⟨.l, .mov (.v 4), none⟩,⟨.l, .pcall 59 [(.l 4), (.l 5)], none⟩,⟨.v 9, .take (.l 6), none⟩])
(.seq (.branch [⟨.l, .mov (.v 9), none⟩,⟨.l, .bin .lss (.l 0) (.c (.int .i64 0)), none⟩] (.l 1)
(.seq (.region [⟨.v 2, .take (.c (.int .i64 (-1))), none⟩])
.ret)
.skip)
(.region [⟨.l, .mov (.v 6), none⟩,⟨.l, .mov (.v 9), none⟩,⟨.l, .bin .add (.l 1) (.c (.int .i64 1)), none⟩,⟨.l, .bin .add (.l 0) (.l 2), none⟩,⟨.v 6, .take (.l 3), none⟩])))
.skip)
(.seq (.branch [⟨.l, .mov (.v 0), none⟩,⟨.l, .mov (.v 6), none⟩,⟨.l, .bin .add (.l 1) (.c (.int .i64 1)), none⟩,⟨.l, .indexStr (.l 0) (.l 2), none⟩,⟨.l, .mov (.v 5), none⟩,⟨.l, .bin .eql (.l 3) (.l 4), none⟩,⟨.l, .mov (.l 5), none⟩,⟨.l, .mov (.v 0), some ((.l 6), true)⟩,⟨.l, .mov (.v 6), some ((.l 6), true)⟩,⟨.l, .mov (.v 6), some ((.l 6), true)⟩,⟨.l, .mov (.v 3), some ((.l 6), true)⟩,⟨.l, .bin .add (.l 9) (.l 10), some ((.l 6), true)⟩,⟨.l, .slice true 1 (.l 7) (some (.l 8)) (some (.l 11)), some ((.l 6), true)⟩,⟨.l, .mov (.v 1), some ((.l 6), true)⟩,⟨.l, .bin .eql (.l 12) (.l 13), some ((.l 6), true)⟩,⟨.l, .pick (.l 6) (.l 14) (.c (.bool false)), none⟩] (.l 15)
(.seq (.region [⟨.l, .mov (.v 6), none⟩,⟨.v 2, .take (.l 0), none⟩])
.ret)
.skip)
(.seq (.region [⟨.l, .mov (.v 6), none⟩,⟨.l, .bin .add (.l 0) (.c (.int .i64 1)), none⟩,⟨.v 6, .take (.l 1), none⟩])
(.seq (.region [⟨.l, .mov (.v 8), none⟩,⟨.l, .bin .add (.l 0) (.c (.int .i64 1)), none⟩,⟨.v 8, .take (.l 1), none⟩])
(.branch [⟨.l, .mov (.v 3), none⟩,⟨.l, .mov (.c .dead), none⟩,⟨.l, .bin .leq (.l 0) (.l 1), none⟩,⟨.l, .mov (.l 2), none⟩,⟨.l, .mov (.v 8), some ((.l 3), true)⟩,⟨.l, .mov (.v 6), some ((.l 3), true)⟩,⟨.l, .pcall 60 [(.l 5)], some ((.l 3), true)⟩,⟨.l, .bin .gtr (.l 4) (.l 6), some ((.l 3), true)⟩,⟨.l, .pick (.l 3) (.l 7) (.c (.bool false)), none⟩] (.l 8)
(.seq (.region [⟨.l, .mov (.v 0), none⟩,⟨.l, .mov (.v 6), none⟩,⟨.l, .slice true 1 (.l 0) (some (.l 1)) none, none⟩,⟨.l, .mov (.v 1), none⟩,⟨.l, .mov (.c .dead), none⟩,⟨.v 10, .take (.l 4), none⟩])
(.seq (.branch [⟨.l, .mov (.v 10), none⟩,⟨.l, .bin .geq (.l 0) (.c (.int .i64 0)), none⟩] (.l 1)
(.seq (.region [⟨.l, .mov (.v 10), none⟩,⟨.l, .mov (.v 6), none⟩,⟨.l, .bin .add (.l 0) (.l 1), none⟩,⟨.v 2, .take (.l 2), none⟩])
.ret)
.skip)
(.seq (.region [⟨.v 2, .take (.c (.int .i64 (-1))), none⟩])
.ret)))
(.branch [⟨.l, .mov (.v 3), none⟩,⟨.l, .mov (.c .dead), none⟩,⟨.l, .bin .gtr (.l 0) (.l 1), none⟩,⟨.l, .mov (.l 2), none⟩,⟨.l, .mov (.v 8), some ((.l 3), true)⟩,⟨.l, .mov (.v 6), some ((.l 3), true)⟩,⟨.l, .bin .shr (.l 5) (.c (.int .u64 4)), some ((.l 3), true)⟩,⟨.l, .bin .add (.c (.int .i64 4)) (.l 6), some ((.l 3), true)⟩,⟨.l, .bin .geq (.l 4) (.l 7), some ((.l 3), true)⟩,⟨.l, .pick (.l 3) (.l 8) (.c (.bool false)), none⟩,⟨.l, .mov (.l 9), none⟩,⟨.l, .mov (.v 6), some ((.l 10), true)⟩,⟨.l, .mov (.v 7), some ((.l 10), true)⟩,⟨.l, .bin .lss (.l 11) (.l 12), some ((.l 10), true)⟩,⟨.l, .pick (.l 10) (.l 13) (.c (.bool false)), none⟩] (.l 14)
(.seq (.region [⟨.l, .mov (.v 0), none⟩,⟨.l, .mov (.v 6), none⟩,⟨.l, .slice true 1 (.l 0) (some (.l 1)) none, none⟩,⟨.l, .mov (.v 1), none⟩,⟨.l, .pcall 61 [(.l 2), (.l 3)], none⟩,⟨.v 11, .take (.l 4), none⟩])
(.seq (.branch [⟨.l, .mov (.v 11), none⟩,⟨.l, .bin .lss (.l 0) (.c (.int .i64 0)), none⟩] (.l 1)
(.seq (.region [⟨.v 2, .take (.c (.int .i64 (-1))), none⟩])
.ret)
.skip)
(.seq (.region [⟨.l, .mov (.v 6), none⟩,⟨.l, .mov (.v 11), none⟩,⟨.l, .bin .add (.l 0) (.l 1), none⟩,⟨.v 2, .take (.l 2), none⟩])
.ret)))
.skip)))))))))
def f_internal_stringslite_Index : PFunc := ⟨2, 12,
(.seq (.region [⟨.v 2, .take (.c (.int .i64 0)), none⟩])
(.seq (.region [⟨.l, .mov (.v 1), none⟩,⟨.l, .len true (.l 0), none⟩,⟨.v 3, .take (.l 1), none⟩])
(.seq (.block 0 (.branch [⟨.l, .mov (.v 3), none⟩,⟨.l, .bin .eql (.l 0) (.c (.int .i64 0)), none⟩,⟨.l, .mov (.l 1), none⟩,⟨.l, .mov (.v 1), some ((.l 2), false)⟩,⟨.l, .mov (.v 0), some ((.l 2), false)⟩,⟨.l, .bin .eql (.l 3) (.l 4), some ((.l 2), false)⟩,⟨.l, .pick (.l 2) (.c (.bool true)) (.l 5), none⟩,⟨.l, .take (.l 6), none⟩] (.l 7)
(.seq (.region [⟨.v 2, .take (.c (.int .i64 0)), none⟩])
.ret)
(.branch [⟨.l, .mov (.v 3), none⟩,⟨.l, .bin .eql (.l 0) (.c (.int .i64 1)), none⟩,⟨.l, .take (.l 1), none⟩] (.l 2)
(.seq (.region [⟨.l, .mov (.v 0), none⟩,⟨.l, .mov (.v 1), none⟩,⟨.l, .indexStr (.l 1) (.c (.int .i64 0)), none⟩,⟨.l, .pcall 59 [(.l 0), (.l 2)], none⟩,⟨.v 2, .take (.l 3), none⟩])
.ret)
(.branch [⟨.l, .mov (.v 3), none⟩,⟨.l, .mov (.v 0), none⟩,⟨.l, .len true (.l 1), none⟩,⟨.l, .bin .geq (.l 0) (.l 2), none⟩,⟨.l, .take (.l 3), none⟩] (.l 4)
(.seq (.region [⟨.v 2, .take (.c (.int .i64 (-1))), none⟩])
.ret)
(.branch [⟨.l, .mov (.v 3), none⟩,⟨.l, .mov (.c .dead), none⟩,⟨.l, .bin .leq (.l 0) (.l 1), none⟩,⟨.l, .mov (.l 2), none⟩,⟨.l, .mov (.v 0), some ((.l 3), true)⟩,⟨.l, .len true (.l 4), some ((.l 3), true)⟩,⟨.l, .bin .leq (.l 5) (.c (.int .i64 64)), some ((.l 3), true)⟩,⟨.l, .pick (.l 3) (.l 6) (.c (.bool false)), none⟩,⟨.l, .take (.l 7), none⟩] (.l 8)
(.seq (.region [⟨.l, .mov (.v 0), none⟩,⟨.l, .mov (.v 1), none⟩,⟨.l, .mov (.c .dead), none⟩,⟨.v 2, .take (.l 2), none⟩])
.ret)
.skip)))))
(.seq (.region [⟨.l, .mov (.v 1), none⟩,⟨.l, .indexStr (.l 0) (.c (.int .i64 0)), none⟩,⟨.v 4, .take (.l 1), none⟩])
(.seq (.region [⟨.l, .mov (.v 1), none⟩,⟨.l, .indexStr (.l 0) (.c (.int .i64 1)), none⟩,⟨.v 5, .take (.l 1), none⟩])
(.seq (.region [⟨.v 6, .take (.c (.int .i64 0)), none⟩])
(.seq (.region [⟨.l, .mov (.v 0), none⟩,⟨.l, .len true (.l 0), none⟩,⟨.l, .mov (.v 3), none⟩,⟨.l, .bin .sub (.l 1) (.l 2), none⟩,⟨.l, .bin .add (.l 3) (.c (.int .i64 1)), none⟩,⟨.v 7, .take (.l 4), none⟩])
(.seq (.region [⟨.v 8, .take (.c (.int .i64 0)), none⟩])
(.seq (.block 1 f_internal_stringslite_Index_l0)
(.seq (.region [⟨.v 2, .take (.c (.int .i64 (-1))), none⟩])
.ret)))))))))),
[.var 2], false, none, none⟩
def f_strconv_Atoi : PFunc := { params := 1, nv := 1, code := .skip, results := [], prim := some pAtoi }
def f_ref03_digit : PFunc := ⟨1, 2,
(.seq (.region [⟨.v 1, .take (.c (.bool false)), none⟩])
(.seq (.region [⟨.l, .mov (.v 0), none⟩,⟨.l, .bin .geq (.l 0) (.c (.int .u8 48)), none⟩,⟨.l, .mov (.l 1), none⟩,⟨.l, .mov (.v 0), some ((.l 2), true)⟩,⟨.l, .bin .leq (.l 3) (.c (.int .u8 57)), some ((.l 2), true)⟩,⟨.l, .pick (.l 2) (.l 4) (.c (.bool false)), none⟩,⟨.v 1, .take (.l 5), none⟩])
.ret)),
[.var 1], false, none, none⟩
def f_ref03_keywords : PFunc := ⟨0, 1,
(.seq (.region [⟨.v 0, .take (.c (.list true [])), none⟩])
(.seq (.region [⟨.l, .mkslice 1 (.str []) 33 [(0, (.c (.str [97, 115, 115, 117, 109, 101]))), (1, (.c (.str [97, 110, 100]))), (2, (.c (.str [97, 117, 116, 111, 109, 97, 116, 111, 110]))), (3, (.c (.str [98, 111, 111, 108]))), (4, (.c (.str [99, 111, 110, 116, 105, 110, 117, 101]))), (5, (.c (.str [100, 111]))), (6, (.c (.str [100, 111, 110, 101]))), (7, (.c (.str [101, 108, 115, 101]))), (8, (.c (.str [101, 110, 100]))), (9, (.c (.str [101, 110, 115, 117, 114, 101]))), (10, (.c (.str [101, 118, 101, 114, 121]))), (11, (.c (.str [102, 97, 108, 115, 101]))), (12, (.c (.str [102, 98, 121]))), (13, (.c (.str [105, 102]))), (14, (.c (.str [105, 110, 116]))), (15, (.c (.str [108, 101, 116]))), (16, (.c (.str [109, 101, 114, 103, 101]))), (17, (.c (.str [109, 111, 100]))), (18, (.c (.str [110, 111, 100, 101]))), (19, (.c (.str [110, 111, 116]))), (20, (.c (.str [111, 114]))), (21, (.c (.str [112, 114, 101]))), (22, (.c (.str [114, 101, 116, 117, 114, 110, 115]))), (23, (.c (.str [115, 116, 97, 116, 101]))), (24, (.c (.str [116, 101, 108]))), (25, (.c (.str [116, 104, 101, 110]))), (26, (.c (.str [116, 114, 117, 101]))), (27, (.c (.str [116, 121, 112, 101]))), (28, (.c (.str [117, 110, 108, 101, 115, 115]))), (29, (.c (.str [117, 110, 116, 105, 108]))), (30, (.c (.str [118, 97, 114]))), (31, (.c (.str [119, 104, 101, 110]))), (32, (.c (.str [120, 111, 114])))], none⟩,⟨.v 0, .take (.l 0), none⟩])
.ret)),
[.var 0], false, none, none⟩
def f_internal_strconv_FormatBool : PFunc := ⟨1, 2,
(.seq (.region [⟨.v 1, .take (.c (.str [])), none⟩])
(.seq (.branch [⟨.l, .mov (.v 0), none⟩] (.l 0)
(.seq (.region [⟨.v 1, .take (.c (.str [116, 114, 117, 101])), none⟩])
.ret)
.skip)
(.seq (.region [⟨.v 1, .take (.c (.str [102, 97, 108, 115, 101])), none⟩])
.ret))),
[.var 1], false, none, none⟩
def f_lex_digit : PFunc := ⟨1, 2,
(.seq (.region [⟨.v 1, .take (.c (.bool false)), none⟩])
(.seq (.region [⟨.l, .mov (.v 0), none⟩,⟨.l, .bin .geq (.l 0) (.c (.int .u8 48)), none⟩,⟨.l, .mov (.l 1), none⟩,⟨.l, .mov (.v 0), some ((.l 2), true)⟩,⟨.l, .bin .leq (.l 3) (.c (.int .u8 57)), some ((.l 2), true)⟩,⟨.l, .pick (.l 2) (.l 4) (.c (.bool false)), none⟩,⟨.v 1, .take (.l 5), none⟩])
.ret)),
[.var 1], false, none, none⟩
def f_internal_stringslite_IndexByte : PFunc := { params := 2, nv := 2, code := .skip, results := [], prim := some pIndexByte }
def f_internal_bytealg_Cutover : PFunc := ⟨1, 2,
(.seq (.region [⟨.v 1, .take (.c (.int .i64 0)), none⟩])
(.seq (.region [⟨.l, .mov (.v 0), none⟩,⟨.l, .bin .add (.l 0) (.c (.int .i64 16)), none⟩,⟨.l, .bin .quo (.l 1) (.c (.int .i64 8)), none⟩,⟨.v 1, .take (.l 2), none⟩])
.ret)),
[.var 1], false, none, none⟩
def f_internal_bytealg_IndexRabinKarp_string_l0 : PC := (.loop (.seq (.branch [⟨.l, .mov (.v 7), none⟩,⟨.l, .mov (.v 5), none⟩,⟨.l, .bin .lss (.l 0) (.l 1), none⟩] (.l 2)
.skip
(.exit 0))
(.seq (.block 1 (.region [⟨.l, .mov (.v 6), none⟩,⟨.l, .bin .mul (.l 0) (.c (.int .u32 16777619)), none⟩,⟨.l, .mov (.v 0), none⟩,⟨.l, .mov (.v 7), none⟩,⟨.l, .indexStr (.l 2) (.l 3), none⟩,⟨.l, .convInt .u32 (.l 4), none⟩,⟨.l, .bin .add (.l 1) (.l 5), none⟩,⟨.v 6, .take (.l 6), none⟩]))
(.region [⟨.l, .mov (.v 7), none⟩,⟨.l, .bin .add (.l 0) (.c (.int .i64 1)), none⟩,⟨.v 7, .take (.l 1), none⟩]))))
def f_internal_bytealg_IndexRabinKarp_string_l1 : PC := (.loop (.seq (.branch [⟨.l, .mov (.v 8), none⟩,⟨.l, .mov (.v 0), none⟩,⟨.l, .len true (.l 1), none⟩,⟨.l, .bin .lss (.l 0) (.l 2), none⟩] (.l 3)
.skip
(.exit 2))
(.block 3 (.seq (.region [⟨.l, .mov (.v 6), none⟩,⟨.l, .bin .mul (.l 0) (.c (.int .u32 16777619)), none⟩,⟨.v 6, .take (.l 1), none⟩])
(.seq (.region [⟨.l, .mov (.v 6), none⟩,⟨.l, .mov (.v 0), none⟩,⟨.l, .mov (.v 8), none⟩,⟨.l, .indexStr (.l 1) (.l 2), none⟩,⟨.l, .convInt .u32 (.l 3), none⟩,⟨.l, .bin .add (.l 0) (.l 4), none⟩,⟨.v 6, .take (.l 5), none⟩])
(.seq (.region [⟨.l, .mov (.v 6), none⟩,⟨.l, .mov (.v 4), none⟩,⟨.l, .mov (.v 0), none⟩,⟨.l, .mov (.v 8), none⟩,⟨.l, .mov (.v 5), none⟩,⟨.l, .bin .sub (.l 3) (.l 4), none⟩,⟨.l, .indexStr (.l 2) (.l 5), none⟩,⟨.l, .convInt .u32 (.l 6), none⟩,⟨.l, .bin .mul (.l 1) (.l 7), none⟩,⟨.l, .bin .sub (.l 0) (.l 8), none⟩,⟨.v 6, .take (.l 9), none⟩])
(.seq (.region [⟨.l, .mov (.v 8), none⟩,⟨.l, .bin .add (.l 0) (.c (.int .i64 1)), none⟩,⟨.v 8, .take (.l 1), none⟩])
(.branch [⟨.l, .mov (.v 6), none⟩,⟨.l, .mov (.v 3), none⟩,⟨.l, .bin .eql (.l 0) (.l 1), none⟩,⟨.l, .mov (.l 2), none⟩,⟨.l, .mov (.v 0), some ((.l 3), true)⟩,⟨.l, .mov (.v 8), some ((.l 3), true)⟩,⟨.l, .mov (.v 5), some ((.l 3), true)⟩,⟨.l, .bin .sub (.l 5) (.l 6), some ((.l 3), true)⟩,⟨.l, .mov (.v 8), some ((.l 3), true)⟩,⟨.l, .slice true 1 (.l 4) (some (.l 7)) (some (.l 8)), some ((.l 3), true)⟩,⟨.l, .mov (.v 1), some ((.l 3), true)⟩,⟨.l, .bin .eql (.l 9) (.l 10), some ((.l 3), true)⟩,⟨.l, .pick (.l 3) (.l 11) (.c (.bool false)), none⟩] (.l 12)
(.seq (.region [⟨.l, .mov (.v 8), none⟩,⟨.l, .mov (.v 5), none⟩,⟨.l, .bin .sub (.l 0) (.l 1), none⟩,⟨.v 2, .take (.l 2), none⟩])
.ret)
.skip))))))))
def f_internal_bytealg_IndexRabinKarp_string : PFunc := ⟨2, 9,
(.seq (.region [⟨.v 2, .take (.c (.int .i64 0)), none⟩])
(.seq (.region [⟨.l, .mov (.v 1), none⟩,⟨.l, .pcall 62 [(.l 0)], none⟩,⟨.l, .mov (.l 1), none⟩,⟨.l, .extract 0 (.l 2), none⟩,⟨.l, .extract 1 (.l 2), none⟩,⟨.v 3, .take (.l 3), none⟩,⟨.v 4, .take (.l 4), none⟩])
(.seq (.region [⟨.l, .mov (.v 1), none⟩,⟨.l, .len true (.l 0), none⟩,⟨.v 5, .take (.l 1), none⟩])
(.seq (.region [⟨.v 6, .take (.c (.int .u32 0)), none⟩])
(.seq (.seq (.region [⟨.v 7, .take (.c (.int .i64 0)), none⟩])
(.block 0 f_internal_bytealg_IndexRabinKarp_string_l0))
(.seq (.branch [⟨.l, .mov (.v 6), none⟩,⟨.l, .mov (.v 3), none⟩,⟨.l, .bin .eql (.l 0) (.l 1), none⟩,⟨.l, .mov (.l 2), none⟩,⟨.l, .mov (.v 0), some ((.l 3), true)⟩,⟨.l, .mov (.v 5), some ((.l 3), true)⟩,⟨.l, .slice true 1 (.l 4) none (some (.l 5)), some ((.l 3), true)⟩,⟨.l, .mov (.v 1), some ((.l 3), true)⟩,⟨.l, .bin .eql (.l 6) (.l 7), some ((.l 3), true)⟩,⟨.l, .pick (.l 3) (.l 8) (.c (.bool false)), none⟩] (.l 9)
(.seq (.region [⟨.v 2, .take (.c (.int .i64 0)), none⟩])
.ret)
.skip)
(.seq (.seq (.region [⟨.l, .mov (.v 5), none⟩,⟨.v 8, .take (.l 0), none⟩])
(.block 2 f_internal_bytealg_IndexRabinKarp_string_l1))
(.seq (.region [⟨.v 2, .take (.c (.int .i64 (-1))), none⟩])
.ret)))))))),
[.var 2], false, none, none⟩
def f_internal_bytealg_hashStr_string_l0 : PC := (.loop (.seq (.branch [⟨.l, .mov (.v 4), none⟩,⟨.l, .mov (.v 0), none⟩,⟨.l, .len true (.l 1), none⟩,⟨.l, .bin .lss (.l 0) (.l 2), none⟩] (.l 3)
.skip
(.exit 0))
(.seq (.block 1 (.region [⟨.l, .mov (.v 3), none⟩,⟨.l, .bin .mul (.l 0) (.c (.int .u32 16777619)), none⟩,⟨.l, .mov (.v 0), none⟩,⟨.l, .mov (.v 4), none⟩,⟨.l, .indexStr (.l 2) (.l 3), none⟩,⟨.l, .convInt .u32 (.l 4), none⟩,⟨.l, .bin .add (.l 1) (.l 5), none⟩,⟨.v 3, .take (.l 6), none⟩]))
(.region [⟨.l, .mov (.v 4), none⟩,⟨.l, .bin .add (.l 0) (.c (.int .i64 1)), none⟩,⟨.v 4, .take (.l 1), none⟩]))))
def f_internal_bytealg_hashStr_string_l1 : PC := (.loop (.seq (.branch [⟨.l, .mov (.v 7), none⟩,⟨.l, .bin .gtr (.l 0) (.c (.int .i64 0)), none⟩] (.l 1)
.skip
(.exit 2))
(.seq (.block 3 (.seq (.branch [⟨.l, .mov (.v 7), none⟩,⟨.l, .bin .and (.l 0) (.c (.int .i64 1)), none⟩,⟨.l, .bin .neq (.l 1) (.c (.int .i64 0)), none⟩] (.l 2)
(.region [⟨.l, .mov (.v 5), none⟩,⟨.l, .mov (.v 6), none⟩,⟨.l, .bin .mul (.l 0) (.l 1), none⟩,⟨.v 5, .take (.l 2), none⟩])
.skip)
(.region [⟨.l, .mov (.v 6), none⟩,⟨.l, .mov (.v 6), none⟩,⟨.l, .bin .mul (.l 0) (.l 1), none⟩,⟨.v 6, .take (.l 2), none⟩])))
(.region [⟨.l, .mov (.v 7), none⟩,⟨.l, .bin .shr (.l 0) (.c (.int .u64 1)), none⟩,⟨.v 7, .take (.l 1), none⟩]))))
def f_internal_bytealg_hashStr_string : PFunc := ⟨1, 8,
(.seq (.region [⟨.v 1, .take (.c (.int .u32 0)), none⟩,⟨.v 2, .take (.c (.int .u32 0)), none⟩])
(.seq (.region [⟨.v 3, .take (.c (.int .u32 0)), none⟩])
(.seq (.seq (.region [⟨.v 4, .take (.c (.int .i64 0)), none⟩])
(.block 0 f_internal_bytealg_hashStr_string_l0))
(.seq (.region [⟨.v 5, .take (.c (.int .u32 1)), none⟩,⟨.v 6, .take (.c (.int .u32 16777619)), none⟩])
(.seq (.seq (.region [⟨.l, .mov (.v 0), none⟩,⟨.l, .len true (.l 0), none⟩,⟨.v 7, .take (.l 1), none⟩])
(.block 2 f_internal_bytealg_hashStr_string_l1))
(.seq (.region [⟨.l, .mov (.v 3), none⟩,⟨.l, .mov (.v 5), none⟩,⟨.v 1, .take (.l 0), none⟩,⟨.v 2, .take (.l 1), none⟩])
.ret)))))),
[.var 1, .var 2], false, none, none⟩
def f_law43_TraceTexts : PFunc := ⟨2, 8,
(.seq (.region [⟨.v 2, .boxloc 2 (.v 1), none⟩,⟨.v 3, .take (.c (.bool false)), none⟩])
(.seq (.branch [⟨.l, .load 2 true (.v 2) false, none⟩,⟨.l, .pcall 3 [(.l 0)], none⟩,⟨.l, .un .not (.l 1), none⟩] (.l 2)
(.seq (.region [⟨.l, .pcall 5 [], none⟩,⟨.v 3, .take (.l 0), none⟩])
.ret)
.skip)
(.seq (.region [⟨.l, .mov (.v 0), none⟩,⟨.l, .load 2 true (.v 2) false, none⟩,⟨.l, .pcall 6 [(.l 0), (.l 1)], none⟩,⟨.l, .mov (.l 2), none⟩,⟨.l, .extract 0 (.l 3), none⟩,⟨.l, .extract 1 (.l 3), none⟩,⟨.v 4, .take (.l 4), none⟩,⟨.v 5, .take (.l 5), none⟩])
(.seq (.region [⟨.l, .mov (.v 0), none⟩,⟨.l, .load 2 true (.v 2) false, none⟩,⟨.l, .pcall 65 [(.l 0), (.l 1)], none⟩,⟨.l, .mov (.l 2), none⟩,⟨.l, .extract 0 (.l 3), none⟩,⟨.l, .extract 1 (.l 3), none⟩,⟨.v 6, .take (.l 4), none⟩,⟨.v 7, .take (.l 5), none⟩])
(.seq (.region [⟨.l, .mov (.v 0), none⟩,⟨.l, .load 2 true (.v 2) false, none⟩,⟨.l, .pcall 7 [(.l 0), (.l 1)], none⟩,⟨.l, .mov (.v 0), none⟩,⟨.l, .load 2 true (.v 2) false, none⟩,⟨.l, .pcall 66 [(.l 3), (.l 4)], none⟩,⟨.l, .bin .eql (.l 2) (.l 5), none⟩,⟨.l, .mov (.l 6), none⟩,⟨.l, .mov (.v 5), some ((.l 7), true)⟩,⟨.l, .mov (.v 7), some ((.l 7), true)⟩,⟨.l, .bin .eql (.l 8) (.l 9), some ((.l 7), true)⟩,⟨.l, .pick (.l 7) (.l 10) (.c (.bool false)), none⟩,⟨.l, .mov (.l 11), none⟩,⟨.l, .mov (.v 4), some ((.l 12), true)⟩,⟨.l, .mov (.v 6), some ((.l 12), true)⟩,⟨.l, .bin .eql (.l 13) (.l 14), some ((.l 12), true)⟩,⟨.l, .pick (.l 12) (.l 15) (.c (.bool false)), none⟩,⟨.l, .mov (.l 16), none⟩,⟨.l, .pcall 5 [], some ((.l 17), true)⟩,⟨.l, .pick (.l 17) (.l 18) (.c (.bool false)), none⟩,⟨.v 3, .take (.l 19), none⟩])
.ret))))),
[.var 3], false, none, none⟩
def f_law43_TraceParses : PFunc := ⟨2, 9,
(.seq (.region [⟨.v 2, .take (.c (.bool false)), none⟩])
(.seq (.branch [⟨.l, .mov (.v 1), none⟩,⟨.l, .len true (.l 0), none⟩,⟨.l, .bin .gtr (.l 1) (.c (.int .i64 6000)), none⟩] (.l 2)
(.seq (.region [⟨.l, .pcall 5 [], none⟩,⟨.v 2, .take (.l 0), none⟩])
.ret)
.skip)
(.seq (.region [⟨.l, .mov (.v 0), none⟩,⟨.l, .mov (.v 1), none⟩,⟨.l, .pcall 8 [(.l 0), (.l 1)], none⟩,⟨.l, .mov (.l 2), none⟩,⟨.l, .extract 0 (.l 3), none⟩,⟨.l, .extract 1 (.l 3), none⟩,⟨.l, .extract 2 (.l 3), none⟩,⟨.v 3, .newloc [.list true [], .list true []], none⟩,⟨.n, .store 2 true (.v 3) (.l 4), none⟩,⟨.v 4, .take (.l 5), none⟩,⟨.v 5, .take (.l 6), none⟩])
(.seq (.region [⟨.l, .mov (.v 0), none⟩,⟨.l, .mov (.v 1), none⟩,⟨.l, .pcall 67 [(.l 0), (.l 1)], none⟩,⟨.l, .mov (.l 2), none⟩,⟨.l, .extract 0 (.l 3), none⟩,⟨.l, .extract 1 (.l 3), none⟩,⟨.l, .extract 2 (.l 3), none⟩,⟨.v 6, .newloc [.list true [], .list true []], none⟩,⟨.n, .store 2 true (.v 6) (.l 4), none⟩,⟨.v 7, .take (.l 5), none⟩,⟨.v 8, .take (.l 6), none⟩])
(.seq (.region [⟨.l, .mov (.v 4), none⟩,⟨.l, .mov (.v 7), none⟩,⟨.l, .bin .eql (.l 0) (.l 1), none⟩,⟨.l, .mov (.l 2), none⟩,⟨.l, .mov (.v 5), some ((.l 3), true)⟩,⟨.l, .mov (.v 8), some ((.l 3), true)⟩,⟨.l, .bin .eql (.l 4) (.l 5), some ((.l 3), true)⟩,⟨.l, .pick (.l 3) (.l 6) (.c (.bool false)), none⟩,⟨.l, .mov (.l 7), none⟩,⟨.l, .load 2 true (.v 3) false, some ((.l 8), true)⟩,⟨.l, .load 2 true (.v 6) false, some ((.l 8), true)⟩,⟨.l, .pcall 9 [(.l 9), (.l 10)], some ((.l 8), true)⟩,⟨.l, .pick (.l 8) (.l 11) (.c (.bool false)), none⟩,⟨.l, .mov (.l 12), none⟩,⟨.l, .pcall 5 [], some ((.l 13), true)⟩,⟨.l, .pick (.l 13) (.l 14) (.c (.bool false)), none⟩,⟨.v 2, .take (.l 15), none⟩])
.ret))))),
[.var 2], false, none, none⟩
def f_ref43_Text_l0 : PC := (.loop (.seq (.branch [⟨.l, .mov (.v 8), none⟩,⟨.l, .faddr 0 (.v 2), none⟩,⟨.l, .load 1 false (.l 1) false, none⟩,⟨.l, .len false (.l 2), none⟩,⟨.l, .bin .lss (.l 0) (.l 3), none⟩] (.l 4)
.skip
(.exit 0))
(.seq (.block 1 (.seq (.region [⟨.l, .mov (.v 0), none⟩,⟨.l, .faddr 0 (.v 2), none⟩,⟨.l, .load 1 false (.l 1) false, none⟩,⟨.l, .mov (.v 8), none⟩,⟨.l, .iaddrS 3 (.l 2) (.l 3), none⟩,⟨.l, .faddr 1 (.l 4), none⟩,⟨.l, .h (.loadc 1 false (.l 5)), none⟩,⟨.l, .pcall 68 [(.l 0), (.l 6)], none⟩,⟨.l, .mov (.l 7), none⟩,⟨.l, .extract 0 (.l 8), none⟩,⟨.l, .extract 1 (.l 8), none⟩,⟨.v 9, .take (.l 9), none⟩,⟨.l, .take (.l 10), none⟩])
(.seq (.region [⟨.l, .take (.v 6), none⟩,⟨.l, .faddr 0 (.v 2), none⟩,⟨.l, .load 1 false (.l 1) false, none⟩,⟨.l, .mov (.v 8), none⟩,⟨.l, .iaddrS 3 (.l 2) (.l 3), none⟩,⟨.l, .faddr 0 (.l 4), none⟩,⟨.l, .h (.loadc 1 false (.l 5)), none⟩,⟨.l, .mkslice 1 (.str []) 1 [(0, (.l 6))], none⟩,⟨.l, .append 1 16 (.l 0) (.l 7), none⟩,⟨.v 6, .take (.l 8), none⟩])
(.region [⟨.l, .take (.v 7), none⟩,⟨.l, .mov (.v 9), none⟩,⟨.l, .mkslice 1 (.str []) 1 [(0, (.l 1))], none⟩,⟨.l, .append 1 16 (.l 0) (.l 2), none⟩,⟨.v 7, .take (.l 3), none⟩]))))
(.region [⟨.l, .mov (.v 8), none⟩,⟨.l, .bin .add (.l 0) (.c (.int .i64 1)), none⟩,⟨.v 8, .take (.l 1), none⟩]))))
def f_ref43_Text_l1 : PC := (.loop (.seq (.branch [⟨.l, .mov (.v 13), none⟩,⟨.l, .faddr 0 (.v 2), none⟩,⟨.l, .load 1 false (.l 1) false, none⟩,⟨.l, .len false (.l 2), none⟩,⟨.l, .bin .lss (.l 0) (.l 3), none⟩] (.l 4)
.skip
(.exit 4))
(.seq (.block 5 (.seq (.region [⟨.l, .faddr 1 (.v 2), none⟩,⟨.l, .load 1 false (.l 0) false, none⟩,⟨.l, .mov (.v 11), none⟩,⟨.l, .iaddrS 1 (.l 1) (.l 2), none⟩,⟨.l, .h (.loadc 1 false (.l 3)), none⟩,⟨.l, .mov (.v 13), none⟩,⟨.l, .iaddrS 2 (.l 4) (.l 5), none⟩,⟨.l, .h (.loadc 2 true (.l 6)), none⟩,⟨.v 14, .newloc [.int .i64 0, .int .i64 0], none⟩,⟨.n, .store 2 true (.v 14) (.l 7), none⟩])
(.seq (.region [⟨.v 15, .take (.c (.str [45])), none⟩])
(.seq (.seq (.region [⟨.l, .faddr 0 (.v 14), none⟩,⟨.v 16, .load 1 false (.l 0) false, none⟩])
(.block 6 (.branch [⟨.l, .bin .eql (.v 16) (.c (.int .i64 1)), none⟩,⟨.l, .take (.l 0), none⟩] (.l 1)
(.region [⟨.l, .mov (.v 0), none⟩,⟨.l, .faddr 0 (.v 2), none⟩,⟨.l, .load 1 false (.l 1) false, none⟩,⟨.l, .mov (.v 13), none⟩,⟨.l, .iaddrS 3 (.l 2) (.l 3), none⟩,⟨.l, .faddr 1 (.l 4), none⟩,⟨.l, .h (.loadc 1 false (.l 5)), none⟩,⟨.l, .faddr 1 (.v 14), none⟩,⟨.l, .load 1 false (.l 7) false, none⟩,⟨.l, .pcall 70 [(.l 0), (.l 6), (.l 8)], none⟩,⟨.l, .mov (.l 9), none⟩,⟨.l, .extract 0 (.l 10), none⟩,⟨.l, .extract 1 (.l 10), none⟩,⟨.v 15, .take (.l 11), none⟩])
(.branch [⟨.l, .bin .eql (.v 16) (.c (.int .i64 2)), none⟩,⟨.l, .take (.l 0), none⟩] (.l 1)
(.region [⟨.v 15, .take (.c (.str [63])), none⟩])
.skip))))
(.region [⟨.l, .take (.v 12), none⟩,⟨.l, .mov (.v 15), none⟩,⟨.l, .mkslice 1 (.str []) 1 [(0, (.l 1))], none⟩,⟨.l, .append 1 16 (.l 0) (.l 2), none⟩,⟨.v 12, .take (.l 3), none⟩])))))
(.region [⟨.l, .mov (.v 13), none⟩,⟨.l, .bin .add (.l 0) (.c (.int .i64 1)), none⟩,⟨.v 13, .take (.l 1), none⟩]))))
def f_ref43_Text_l2 : PC := (.loop (.seq (.branch [⟨.l, .mov (.v 11), none⟩,⟨.l, .faddr 1 (.v 2), none⟩,⟨.l, .load 1 false (.l 1) false, none⟩,⟨.l, .len false (.l 2), none⟩,⟨.l, .bin .lss (.l 0) (.l 3), none⟩] (.l 4)
.skip
(.exit 2))
(.seq (.block 3 (.seq (.region [⟨.v 12, .take (.c (.list true [])), none⟩])
(.seq (.seq (.region [⟨.v 13, .take (.c (.int .i64 0)), none⟩])
(.block 4 f_ref43_Text_l1))
(.region [⟨.l, .take (.v 10), none⟩,⟨.l, .mov (.v 12), none⟩,⟨.l, .pcall 69 [(.l 1)], none⟩,⟨.l, .appstr (.l 0) (.l 2), none⟩,⟨.v 10, .take (.l 3), none⟩]))))
(.region [⟨.l, .mov (.v 11), none⟩,⟨.l, .bin .add (.l 0) (.c (.int .i64 1)), none⟩,⟨.v 11, .take (.l 1), none⟩]))))
def f_ref43_Text : PFunc := ⟨2, 17,
(.seq (.region [⟨.v 2, .boxloc 2 (.v 1), none⟩,⟨.v 3, .take (.c (.str [])), none⟩,⟨.v 4, .take (.c (.int .i64 0)), none⟩])
(.seq (.region [⟨.l, .mov (.v 0), none⟩,⟨.l, .load 2 true (.v 2) false, none⟩,⟨.l, .pcall 66 [(.l 0), (.l 1)], none⟩,⟨.v 5, .take (.l 2), none⟩])
(.seq (.branch [⟨.l, .mov (.v 5), none⟩,⟨.l, .bin .neq (.l 0) (.c (.int .i64 0)), none⟩] (.l 1)
(.seq (.region [⟨.l, .mov (.v 5), none⟩,⟨.v 3, .take (.c (.str [])), none⟩,⟨.v 4, .take (.l 0), none⟩])
.ret)
.skip)
(.seq (.region [⟨.v 6, .take (.c (.list true [])), none⟩,⟨.v 7, .take (.c (.list true [])), none⟩])
(.seq (.seq (.region [⟨.v 8, .take (.c (.int .i64 0)), none⟩])
(.block 0 f_ref43_Text_l0))
(.seq (.region [⟨.l, .mov (.v 6), none⟩,⟨.l, .pcall 69 [(.l 0)], none⟩,⟨.l, .mov (.v 7), none⟩,⟨.l, .pcall 69 [(.l 2)], none⟩,⟨.l, .bin .add (.l 1) (.l 3), none⟩,⟨.l, .s2b (.l 4), none⟩,⟨.v 10, .take (.l 5), none⟩])
(.seq (.seq (.region [⟨.v 11, .take (.c (.int .i64 0)), none⟩])
(.block 2 f_ref43_Text_l2))
(.seq (.region [⟨.l, .mov (.v 10), none⟩,⟨.l, .b2s (.l 0), none⟩,⟨.v 3, .take (.l 1), none⟩,⟨.v 4, .take (.c (.int .i64 0)), none⟩])
.ret)))))))),
[.var 3, .var 4], false, none, none⟩
def f_ref43_Check_l0 : PC := (.loop (.seq (.branch [⟨.l, .mov (.v 4), none⟩,⟨.l, .faddr 0 (.v 2), none⟩,⟨.l, .load 1 false (.l 1) false, none⟩,⟨.l, .len false (.l 2), none⟩,⟨.l, .bin .lss (.l 0) (.l 3), none⟩] (.l 4)
.skip
(.exit 0))
(.seq (.block 1 (.seq (.region [⟨.l, .mov (.v 0), none⟩,⟨.l, .faddr 0 (.v 2), none⟩,⟨.l, .load 1 false (.l 1) false, none⟩,⟨.l, .mov (.v 4), none⟩,⟨.l, .pcall 71 [(.l 0), (.l 2), (.l 3)], none⟩,⟨.v 5, .take (.l 4), none⟩])
(.branch [⟨.l, .mov (.v 5), none⟩,⟨.l, .bin .neq (.l 0) (.c (.int .i64 0)), none⟩] (.l 1)
(.seq (.region [⟨.l, .mov (.v 5), none⟩,⟨.v 3, .take (.l 0), none⟩])
.ret)
.skip)))
(.region [⟨.l, .mov (.v 4), none⟩,⟨.l, .bin .add (.l 0) (.c (.int .i64 1)), none⟩,⟨.v 4, .take (.l 1), none⟩]))))
def f_ref43_Check_l1 : PC := (.loop (.seq (.branch [⟨.l, .mov (.v 7), none⟩,⟨.l, .faddr 0 (.v 2), none⟩,⟨.l, .load 1 false (.l 1) false, none⟩,⟨.l, .len false (.l 2), none⟩,⟨.l, .bin .lss (.l 0) (.l 3), none⟩] (.l 4)
.skip
(.exit 4))
(.seq (.block 5 (.seq (.region [⟨.l, .mov (.v 0), none⟩,⟨.l, .faddr 0 (.v 2), none⟩,⟨.l, .load 1 false (.l 1) false, none⟩,⟨.l, .mov (.v 7), none⟩,⟨.l, .iaddrS 3 (.l 2) (.l 3), none⟩,⟨.l, .faddr 1 (.l 4), none⟩,⟨.l, .h (.loadc 1 false (.l 5)), none⟩,⟨.l, .faddr 1 (.v 2), none⟩,⟨.l, .load 1 false (.l 7) false, none⟩,⟨.l, .mov (.v 6), none⟩,⟨.l, .iaddrS 1 (.l 8) (.l 9), none⟩,⟨.l, .h (.loadc 1 false (.l 10)), none⟩,⟨.l, .mov (.v 7), none⟩,⟨.l, .iaddrS 2 (.l 11) (.l 12), none⟩,⟨.l, .h (.loadc 2 true (.l 13)), none⟩,⟨.l, .pcall 72 [(.l 0), (.l 6), (.l 14)], none⟩,⟨.v 8, .take (.l 15), none⟩])
(.branch [⟨.l, .mov (.v 8), none⟩,⟨.l, .bin .neq (.l 0) (.c (.int .i64 0)), none⟩] (.l 1)
(.seq (.region [⟨.l, .mov (.v 8), none⟩,⟨.v 3, .take (.l 0), none⟩])
.ret)
.skip)))
(.region [⟨.l, .mov (.v 7), none⟩,⟨.l, .bin .add (.l 0) (.c (.int .i64 1)), none⟩,⟨.v 7, .take (.l 1), none⟩]))))
def f_ref43_Check_l2 : PC := (.loop (.seq (.branch [⟨.l, .mov (.v 6), none⟩,⟨.l, .faddr 1 (.v 2), none⟩,⟨.l, .load 1 false (.l 1) false, none⟩,⟨.l, .len false (.l 2), none⟩,⟨.l, .bin .lss (.l 0) (.l 3), none⟩] (.l 4)
.skip
(.exit 2))
(.seq (.block 3 (.seq (.branch [⟨.l, .faddr 1 (.v 2), none⟩,⟨.l, .load 1 false (.l 0) false, none⟩,⟨.l, .mov (.v 6), none⟩,⟨.l, .iaddrS 1 (.l 1) (.l 2), none⟩,⟨.l, .h (.loadc 1 false (.l 3)), none⟩,⟨.l, .len false (.l 4), none⟩,⟨.l, .faddr 0 (.v 2), none⟩,⟨.l, .load 1 false (.l 6) false, none⟩,⟨.l, .len false (.l 7), none⟩,⟨.l, .bin .neq (.l 5) (.l 8), none⟩] (.l 9)
(.seq (.region [⟨.v 3, .take (.c (.int .i64 9)), none⟩])
.ret)
.skip)
(.seq (.region [⟨.v 7, .take (.c (.int .i64 0)), none⟩])
(.block 4 f_ref43_Check_l1))))
(.region [⟨.l, .mov (.v 6), none⟩,⟨.l, .bin .add (.l 0) (.c (.int .i64 1)), none⟩,⟨.v 6, .take (.l 1), none⟩]))))
def f_ref43_Check : PFunc := ⟨2, 9,
(.seq (.region [⟨.v 2, .boxloc 2 (.v 1), none⟩,⟨.v 3, .take (.c (.int .i64 0)), none⟩])
(.seq (.branch [⟨.l, .faddr 1 (.v 2), none⟩,⟨.l, .load 1 false (.l 0) false, none⟩,⟨.l, .len false (.l 1), none⟩,⟨.l, .bin .gtr (.l 2) (.c (.int .i64 4096)), none⟩,⟨.l, .mov (.l 3), none⟩,⟨.l, .faddr 0 (.v 2), some ((.l 4), false)⟩,⟨.l, .load 1 false (.l 5) false, some ((.l 4), false)⟩,⟨.l, .len false (.l 6), some ((.l 4), false)⟩,⟨.l, .bin .gtr (.l 7) (.c (.int .i64 384)), some ((.l 4), false)⟩,⟨.l, .pick (.l 4) (.c (.bool true)) (.l 8), none⟩] (.l 9)
(.seq (.region [⟨.v 3, .take (.c (.int .i64 3)), none⟩])
.ret)
.skip)
(.seq (.seq (.region [⟨.v 4, .take (.c (.int .i64 0)), none⟩])
(.block 0 f_ref43_Check_l0))
(.seq (.seq (.region [⟨.v 6, .take (.c (.int .i64 0)), none⟩])
(.block 2 f_ref43_Check_l2))
(.seq (.region [⟨.v 3, .take (.c (.int .i64 0)), none⟩])
.ret))))),
[.var 3], false, none, none⟩
def f_ref43_Parse_l0 : PC := (.loop (.seq (.branch [⟨.l, .mov (.v 11), none⟩,⟨.l, .mov (.v 7), none⟩,⟨.l, .len false (.l 1), none⟩,⟨.l, .bin .lss (.l 0) (.l 2), none⟩] (.l 3)
.skip
(.exit 0))
(.seq (.block 1 (.seq (.region [⟨.l, .mov (.v 0), none⟩,⟨.l, .mov (.v 9), none⟩,⟨.l, .mov (.v 11), none⟩,⟨.l, .iaddrS 1 (.l 1) (.l 2), none⟩,⟨.l, .h (.loadc 1 false (.l 3)), none⟩,⟨.l, .pcall 75 [(.l 0), (.l 4)], none⟩,⟨.l, .mov (.l 5), none⟩,⟨.l, .extract 0 (.l 6), none⟩,⟨.l, .extract 1 (.l 6), none⟩,⟨.v 12, .take (.l 7), none⟩,⟨.v 13, .take (.l 8), none⟩])
(.seq (.branch [⟨.l, .mov (.v 13), none⟩,⟨.l, .un .not (.l 0), none⟩] (.l 1)
(.seq (.region [⟨.l, .build [.list true [], .list true []] [], none⟩,⟨.n, .store 2 true (.v 2) (.l 0), none⟩,⟨.v 3, .take (.c (.int .i64 2)), none⟩,⟨.v 4, .take (.c (.int .i64 10)), none⟩])
.ret)
.skip)
(.region [⟨.l, .faddr 0 (.v 10), none⟩,⟨.l, .load 1 false (.l 0) true, none⟩,⟨.l, .mov (.v 7), none⟩,⟨.l, .mov (.v 11), none⟩,⟨.l, .iaddrS 1 (.l 2) (.l 3), none⟩,⟨.l, .h (.loadc 1 false (.l 4)), none⟩,⟨.l, .mov (.v 12), none⟩,⟨.l, .build [.str [], .int .i64 0, .list true []] [(0, 1, (.l 5)), (1, 1, (.l 6))], none⟩,⟨.l, .mkslice 3 (.agg [.str [], .int .i64 0, .list true []]) 1 [(0, (.l 7))], none⟩,⟨.l, .append 3 48 (.l 1) (.l 8), none⟩,⟨.l, .faddr 0 (.v 10), none⟩,⟨.n, .store 1 false (.l 10) (.l 9), none⟩]))))
(.region [⟨.l, .mov (.v 11), none⟩,⟨.l, .bin .add (.l 0) (.c (.int .i64 1)), none⟩,⟨.v 11, .take (.l 1), none⟩]))))
def f_ref43_Parse_l1 : PC := (.loop (.seq (.branch [⟨.l, .mov (.v 14), none⟩,⟨.l, .mov (.v 6), none⟩,⟨.l, .bin .lss (.l 0) (.l 1), none⟩] (.l 2)
.skip
(.exit 2))
(.seq (.block 3 (.seq (.branch [⟨.l, .mov (.v 14), none⟩,⟨.l, .bin .geq (.l 0) (.c (.int .i64 4098)), none⟩] (.l 1)
(.seq (.region [⟨.l, .build [.list true [], .list true []] [], none⟩,⟨.l, .mov (.v 14), none⟩,⟨.l, .bin .add (.l 1) (.c (.int .i64 1)), none⟩,⟨.n, .store 2 true (.v 2) (.l 0), none⟩,⟨.v 3, .take (.l 2), none⟩,⟨.v 4, .take (.c (.int .i64 3)), none⟩])
.ret)
.skip)
(.seq (.region [⟨.l, .mov (.v 0), none⟩,⟨.l, .faddr 0 (.v 10), none⟩,⟨.l, .load 1 false (.l 1) false, none⟩,⟨.l, .mov (.v 5), none⟩,⟨.l, .mov (.v 14), none⟩,⟨.l, .iaddrS 1 (.l 3) (.l 4), none⟩,⟨.l, .h (.loadc 1 false (.l 5)), none⟩,⟨.l, .pcall 73 [(.l 6)], none⟩,⟨.l, .pcall 76 [(.l 0), (.l 2), (.l 7)], none⟩,⟨.l, .mov (.l 8), none⟩,⟨.l, .extract 0 (.l 9), none⟩,⟨.l, .extract 1 (.l 9), none⟩,⟨.v 15, .take (.l 10), none⟩,⟨.v 16, .take (.l 11), none⟩])
(.seq (.branch [⟨.l, .mov (.v 16), none⟩,⟨.l, .bin .neq (.l 0) (.c (.int .i64 0)), none⟩] (.l 1)
(.seq (.region [⟨.l, .build [.list true [], .list true []] [], none⟩,⟨.l, .mov (.v 14), none⟩,⟨.l, .bin .add (.l 1) (.c (.int .i64 1)), none⟩,⟨.l, .mov (.v 16), none⟩,⟨.n, .store 2 true (.v 2) (.l 0), none⟩,⟨.v 3, .take (.l 2), none⟩,⟨.v 4, .take (.l 3), none⟩])
.ret)
.skip)
(.region [⟨.l, .faddr 1 (.v 10), none⟩,⟨.l, .load 1 false (.l 0) true, none⟩,⟨.l, .mov (.v 15), none⟩,⟨.l, .mkslice 1 (.list true []) 1 [(0, (.l 2))], none⟩,⟨.l, .append 1 24 (.l 1) (.l 3), none⟩,⟨.l, .faddr 1 (.v 10), none⟩,⟨.n, .store 1 false (.l 5) (.l 4), none⟩])))))
(.region [⟨.l, .mov (.v 14), none⟩,⟨.l, .bin .add (.l 0) (.c (.int .i64 1)), none⟩,⟨.v 14, .take (.l 1), none⟩]))))
def f_ref43_Parse : PFunc := ⟨2, 17,
(.seq (.region [⟨.v 2, .newloc [.list true [], .list true []], none⟩,⟨.v 3, .take (.c (.int .i64 0)), none⟩,⟨.v 4, .take (.c (.int .i64 0)), none⟩])
(.seq (.region [⟨.l, .mov (.v 1), none⟩,⟨.l, .pcall 10 [(.l 0)], none⟩,⟨.v 5, .take (.l 1), none⟩])
(.seq (.region [⟨.l, .mov (.v 5), none⟩,⟨.l, .len false (.l 0), none⟩,⟨.l, .bin .sub (.l 1) (.c (.int .i64 1)), none⟩,⟨.v 6, .take (.l 2), none⟩])
(.seq (.branch [⟨.l, .mov (.v 6), none⟩,⟨.l, .bin .lss (.l 0) (.c (.int .i64 1)), none⟩] (.l 1)
(.seq (.region [⟨.l, .build [.list true [], .list true []] [], none⟩,⟨.n, .store 2 true (.v 2) (.l 0), none⟩,⟨.v 3, .take (.c (.int .i64 1)), none⟩,⟨.v 4, .take (.c (.int .i64 4)), none⟩])
.ret)
.skip)
(.seq (.region [⟨.l, .mov (.v 5), none⟩,⟨.l, .iaddrS 1 (.l 0) (.c (.int .i64 0)), none⟩,⟨.l, .h (.loadc 1 false (.l 1)), none⟩,⟨.l, .pcall 73 [(.l 2)], none⟩,⟨.v 7, .take (.l 3), none⟩])
(.seq (.region [⟨.l, .mov (.v 7), none⟩,⟨.l, .pcall 74 [(.l 0)], none⟩,⟨.v 8, .take (.l 1), none⟩])
(.seq (.branch [⟨.l, .mov (.v 8), none⟩,⟨.l, .bin .neq (.l 0) (.c (.int .i64 0)), none⟩] (.l 1)
(.seq (.region [⟨.l, .build [.list true [], .list true []] [], none⟩,⟨.l, .mov (.v 8), none⟩,⟨.n, .store 2 true (.v 2) (.l 0), none⟩,⟨.v 3, .take (.c (.int .i64 1)), none⟩,⟨.v 4, .take (.l 1), none⟩])
.ret)
.skip)
(.seq (.branch [⟨.l, .mov (.v 6), none⟩,⟨.l, .bin .lss (.l 0) (.c (.int .i64 2)), none⟩] (.l 1)
(.seq (.region [⟨.l, .build [.list true [], .list true []] [], none⟩,⟨.n, .store 2 true (.v 2) (.l 0), none⟩,⟨.v 3, .take (.c (.int .i64 2)), none⟩,⟨.v 4, .take (.c (.int .i64 4)), none⟩])
.ret)
.skip)
(.seq (.region [⟨.l, .mov (.v 5), none⟩,⟨.l, .iaddrS 1 (.l 0) (.c (.int .i64 1)), none⟩,⟨.l, .h (.loadc 1 false (.l 1)), none⟩,⟨.l, .pcall 73 [(.l 2)], none⟩,⟨.v 9, .take (.l 3), none⟩])
(.seq (.branch [⟨.l, .mov (.v 9), none⟩,⟨.l, .len false (.l 0), none⟩,⟨.l, .mov (.v 7), none⟩,⟨.l, .len false (.l 2), none⟩,⟨.l, .bin .neq (.l 1) (.l 3), none⟩] (.l 4)
(.seq (.region [⟨.l, .build [.list true [], .list true []] [], none⟩,⟨.n, .store 2 true (.v 2) (.l 0), none⟩,⟨.v 3, .take (.c (.int .i64 2)), none⟩,⟨.v 4, .take (.c (.int .i64 9)), none⟩])
.ret)
.skip)
(.seq (.region [⟨.l, .build [.list true [], .list true []] [], none⟩,⟨.v 10, .newloc [.list true [], .list true []], none⟩,⟨.n, .store 2 true (.v 10) (.l 0), none⟩])
(.seq (.seq (.region [⟨.v 11, .take (.c (.int .i64 0)), none⟩])
(.block 0 f_ref43_Parse_l0))
(.seq (.seq (.region [⟨.v 14, .take (.c (.int .i64 2)), none⟩])
(.block 2 f_ref43_Parse_l1))
(.seq (.branch [⟨.l, .mov (.v 5), none⟩,⟨.l, .mov (.v 6), none⟩,⟨.l, .iaddrS 1 (.l 0) (.l 1), none⟩,⟨.l, .h (.loadc 1 false (.l 2)), none⟩,⟨.l, .bin .neq (.l 3) (.c (.str [])), none⟩] (.l 4)
(.seq (.region [⟨.l, .build [.list true [], .list true []] [], none⟩,⟨.l, .mov (.v 6), none⟩,⟨.l, .bin .add (.l 1) (.c (.int .i64 1)), none⟩,⟨.n, .store 2 true (.v 2) (.l 0), none⟩,⟨.v 3, .take (.l 2), none⟩,⟨.v 4, .take (.c (.int .i64 4)), none⟩])
.ret)
.skip)
(.seq (.region [⟨.l, .load 2 true (.v 10) false, none⟩,⟨.n, .store 2 true (.v 2) (.l 0), none⟩,⟨.v 3, .take (.c (.int .i64 0)), none⟩,⟨.v 4, .take (.c (.int .i64 0)), none⟩])
.ret))))))))))))))),
[.cell 2 2 true, .var 3, .var 4], false, none, none⟩
def f_ref05_Name : PFunc := ⟨2, 4,
(.seq (.region [⟨.v 2, .take (.c (.str [])), none⟩,⟨.v 3, .take (.c (.bool false)), none⟩])
(.seq (.branch [⟨.l, .mov (.v 0), none⟩,⟨.l, .mov (.v 1), none⟩,⟨.l, .pcall 77 [(.l 0), (.l 1)], none⟩,⟨.l, .un .not (.l 2), none⟩] (.l 3)
(.seq (.region [⟨.v 2, .take (.c (.str [])), none⟩,⟨.v 3, .take (.c (.bool false)), none⟩])
.ret)
.skip)
(.seq (.branch [⟨.l, .mov (.v 1), none⟩,⟨.l, .bin .eql (.l 0) (.c (.int .i64 1)), none⟩] (.l 1)
(.seq (.region [⟨.v 2, .take (.c (.str [98, 111, 111, 108])), none⟩,⟨.v 3, .take (.c (.bool true)), none⟩])
.ret)
.skip)
(.seq (.branch [⟨.l, .mov (.v 1), none⟩,⟨.l, .bin .eql (.l 0) (.c (.int .i64 2)), none⟩] (.l 1)
(.seq (.region [⟨.v 2, .take (.c (.str [105, 110, 116])), none⟩,⟨.v 3, .take (.c (.bool true)), none⟩])
.ret)
.skip)
(.seq (.region [⟨.l, .mov (.v 0), none⟩,⟨.l, .mov (.v 1), none⟩,⟨.l, .bin .sub (.l 1) (.c (.int .i64 3)), none⟩,⟨.l, .iaddrS 2 (.l 0) (.l 2), none⟩,⟨.l, .faddr 0 (.l 3), none⟩,⟨.l, .h (.loadc 1 false (.l 4)), none⟩,⟨.v 2, .take (.l 5), none⟩,⟨.v 3, .take (.c (.bool true)), none⟩])
.ret))))),
[.var 2, .var 3], false, none, none⟩
def f_ref43_line_l0 : PC := (.loop (.seq (.branch [⟨.l, .mov (.v 3), none⟩,⟨.l, .mov (.v 0), none⟩,⟨.l, .len false (.l 1), none⟩,⟨.l, .bin .lss (.l 0) (.l 2), none⟩] (.l 3)
.skip
(.exit 0))
(.seq (.block 1 (.seq (.branch [⟨.l, .mov (.v 3), none⟩,⟨.l, .bin .gtr (.l 0) (.c (.int .i64 0)), none⟩] (.l 1)
(.region [⟨.l, .mov (.v 2), none⟩,⟨.l, .bin .add (.l 0) (.c (.str [32])), none⟩,⟨.v 2, .take (.l 1), none⟩])
.skip)
(.region [⟨.l, .mov (.v 2), none⟩,⟨.l, .mov (.v 0), none⟩,⟨.l, .mov (.v 3), none⟩,⟨.l, .iaddrS 1 (.l 1) (.l 2), none⟩,⟨.l, .h (.loadc 1 false (.l 3)), none⟩,⟨.l, .bin .add (.l 0) (.l 4), none⟩,⟨.v 2, .take (.l 5), none⟩])))
(.region [⟨.l, .mov (.v 3), none⟩,⟨.l, .bin .add (.l 0) (.c (.int .i64 1)), none⟩,⟨.v 3, .take (.l 1), none⟩]))))
def f_ref43_line : PFunc := ⟨1, 4,
(.seq (.region [⟨.v 1, .take (.c (.str [])), none⟩])
(.seq (.region [⟨.v 2, .take (.c (.str [])), none⟩])
(.seq (.seq (.region [⟨.v 3, .take (.c (.int .i64 0)), none⟩])
(.block 0 f_ref43_line_l0))
(.seq (.region [⟨.l, .mov (.v 2), none⟩,⟨.l, .bin .add (.l 0) (.c (.str [10])), none⟩,⟨.v 1, .take (.l 1), none⟩])
.ret)))),
[.var 1], false, none, none⟩
def f_ref05_Text : PFunc := ⟨3, 5,
(.seq (.region [⟨.v 3, .take (.c (.str [])), none⟩,⟨.v 4, .take (.c (.int .i64 0)), none⟩])
(.seq (.branch [⟨.l, .mov (.v 0), none⟩,⟨.l, .mov (.v 1), none⟩,⟨.l, .pcall 77 [(.l 0), (.l 1)], none⟩,⟨.l, .un .not (.l 2), none⟩] (.l 3)
(.seq (.region [⟨.v 3, .take (.c (.str [])), none⟩,⟨.v 4, .take (.c (.int .i64 10)), none⟩])
.ret)
.skip)
(.seq (.branch [⟨.l, .mov (.v 0), none⟩,⟨.l, .mov (.v 1), none⟩,⟨.l, .mov (.v 2), none⟩,⟨.l, .pcall 78 [(.l 0), (.l 1), (.l 2)], none⟩,⟨.l, .un .not (.l 3), none⟩] (.l 4)
(.seq (.region [⟨.v 3, .take (.c (.str [])), none⟩,⟨.v 4, .take (.c (.int .i64 14)), none⟩])
.ret)
.skip)
(.seq (.branch [⟨.l, .mov (.v 1), none⟩,⟨.l, .bin .eql (.l 0) (.c (.int .i64 2)), none⟩] (.l 1)
(.seq (.region [⟨.l, .mov (.v 2), none⟩,⟨.l, .pcall 79 [(.l 0)], none⟩,⟨.v 3, .take (.l 1), none⟩,⟨.v 4, .take (.c (.int .i64 0)), none⟩])
.ret)
.skip)
(.seq (.branch [⟨.l, .mov (.v 1), none⟩,⟨.l, .bin .eql (.l 0) (.c (.int .i64 1)), none⟩] (.l 1)
(.seq (.branch [⟨.l, .mov (.v 2), none⟩,⟨.l, .bin .eql (.l 0) (.c (.int .i64 1)), none⟩] (.l 1)
(.seq (.region [⟨.v 3, .take (.c (.str [116, 114, 117, 101])), none⟩,⟨.v 4, .take (.c (.int .i64 0)), none⟩])
.ret)
.skip)
(.seq (.region [⟨.v 3, .take (.c (.str [102, 97, 108, 115, 101])), none⟩,⟨.v 4, .take (.c (.int .i64 0)), none⟩])
.ret))
.skip)
(.seq (.region [⟨.l, .mov (.v 0), none⟩,⟨.l, .mov (.v 1), none⟩,⟨.l, .bin .sub (.l 1) (.c (.int .i64 3)), none⟩,⟨.l, .iaddrS 2 (.l 0) (.l 2), none⟩,⟨.l, .faddr 1 (.l 3), none⟩,⟨.l, .h (.loadc 1 false (.l 4)), none⟩,⟨.l, .mov (.v 2), none⟩,⟨.l, .iaddrS 1 (.l 5) (.l 6), none⟩,⟨.l, .h (.loadc 1 false (.l 7)), none⟩,⟨.v 3, .take (.l 8), none⟩,⟨.v 4, .take (.c (.int .i64 0)), none⟩])
.ret)))))),
[.var 3, .var 4], false, none, none⟩
def f_ref43_column_l0 : PC := (.loop (.seq (.branch [⟨.l, .mov (.v 6), none⟩,⟨.l, .mov (.v 2), none⟩,⟨.l, .bin .lss (.l 0) (.l 1), none⟩] (.l 2)
.skip
(.exit 0))
(.seq (.block 1 (.branch [⟨.l, .mov (.v 1), none⟩,⟨.l, .mov (.v 6), none⟩,⟨.l, .iaddrS 3 (.l 0) (.l 1), none⟩,⟨.l, .faddr 0 (.l 2), none⟩,⟨.l, .h (.loadc 1 false (.l 3)), none⟩,⟨.l, .faddr 0 (.v 4), none⟩,⟨.l, .load 1 false (.l 5) false, none⟩,⟨.l, .bin .eql (.l 4) (.l 6), none⟩] (.l 7)
(.seq (.region [⟨.v 3, .take (.c (.int .i64 7)), none⟩])
.ret)
.skip))
(.region [⟨.l, .mov (.v 6), none⟩,⟨.l, .bin .add (.l 0) (.c (.int .i64 1)), none⟩,⟨.v 6, .take (.l 1), none⟩]))))
def f_ref43_column : PFunc := ⟨3, 7,
(.seq (.region [⟨.v 3, .take (.c (.int .i64 0)), none⟩])
(.seq (.region [⟨.l, .mov (.v 1), none⟩,⟨.l, .mov (.v 2), none⟩,⟨.l, .iaddrS 3 (.l 0) (.l 1), none⟩,⟨.l, .h (.loadc 3 true (.l 2)), none⟩,⟨.v 4, .newloc [.str [], .int .i64 0, .list true []], none⟩,⟨.n, .store 3 true (.v 4) (.l 3), none⟩])
(.seq (.branch [⟨.l, .faddr 0 (.v 4), none⟩,⟨.l, .load 1 false (.l 0) false, none⟩,⟨.l, .pcall 32 [(.l 1)], none⟩,⟨.l, .un .not (.l 2), none⟩] (.l 3)
(.seq (.region [⟨.v 3, .take (.c (.int .i64 6)), none⟩])
.ret)
.skip)
(.seq (.region [⟨.l, .mov (.v 0), none⟩,⟨.l, .faddr 1 (.v 4), none⟩,⟨.l, .load 1 false (.l 1) false, none⟩,⟨.l, .pcall 68 [(.l 0), (.l 2)], none⟩,⟨.l, .mov (.l 3), none⟩,⟨.l, .extract 0 (.l 4), none⟩,⟨.l, .extract 1 (.l 4), none⟩,⟨.l, .take (.l 5), none⟩,⟨.v 5, .take (.l 6), none⟩])
(.seq (.branch [⟨.l, .mov (.v 5), none⟩,⟨.l, .un .not (.l 0), none⟩] (.l 1)
(.seq (.region [⟨.v 3, .take (.c (.int .i64 10)), none⟩])
.ret)
.skip)
(.seq (.branch [⟨.l, .faddr 2 (.v 4), none⟩,⟨.l, .load 1 false (.l 0) false, none⟩,⟨.l, .len false (.l 1), none⟩,⟨.l, .bin .gtr (.l 2) (.c (.int .i64 0)), none⟩] (.l 3)
(.seq (.region [⟨.v 3, .take (.c (.int .i64 11)), none⟩])
.ret)
.skip)
(.seq (.seq (.region [⟨.v 6, .take (.c (.int .i64 0)), none⟩])
(.block 0 f_ref43_column_l0))
(.seq (.region [⟨.v 3, .take (.c (.int .i64 0)), none⟩])
.ret)))))))),
[.var 3], false, none, none⟩
def f_ref43_cell : PFunc := ⟨3, 5,
(.seq (.region [⟨.v 3, .boxloc 2 (.v 2), none⟩,⟨.v 4, .take (.c (.int .i64 0)), none⟩])
(.seq (.branch [⟨.l, .faddr 0 (.v 3), none⟩,⟨.l, .load 1 false (.l 0) false, none⟩,⟨.l, .bin .neq (.l 1) (.c (.int .i64 0)), none⟩,⟨.l, .mov (.l 2), none⟩,⟨.l, .faddr 0 (.v 3), some ((.l 3), true)⟩,⟨.l, .load 1 false (.l 4) false, some ((.l 3), true)⟩,⟨.l, .bin .neq (.l 5) (.c (.int .i64 1)), some ((.l 3), true)⟩,⟨.l, .pick (.l 3) (.l 6) (.c (.bool false)), none⟩,⟨.l, .mov (.l 7), none⟩,⟨.l, .faddr 0 (.v 3), some ((.l 8), true)⟩,⟨.l, .load 1 false (.l 9) false, some ((.l 8), true)⟩,⟨.l, .bin .neq (.l 10) (.c (.int .i64 2)), some ((.l 8), true)⟩,⟨.l, .pick (.l 8) (.l 11) (.c (.bool false)), none⟩,⟨.l, .mov (.l 12), none⟩,⟨.l, .faddr 0 (.v 3), some ((.l 13), false)⟩,⟨.l, .load 1 false (.l 14) false, some ((.l 13), false)⟩,⟨.l, .bin .neq (.l 15) (.c (.int .i64 1)), some ((.l 13), false)⟩,⟨.l, .mov (.l 16), some ((.l 13), false)⟩,⟨.l, .faddr 1 (.v 3), some ((.l 17), true)⟩,⟨.l, .load 1 false (.l 18) false, some ((.l 17), true)⟩,⟨.l, .bin .neq (.l 19) (.c (.int .i64 0)), some ((.l 17), true)⟩,⟨.l, .pick (.l 17) (.l 20) (.c (.bool false)), some ((.l 13), false)⟩,⟨.l, .pick (.l 13) (.c (.bool true)) (.l 21), none⟩] (.l 22)
(.seq (.region [⟨.v 4, .take (.c (.int .i64 5)), none⟩])
.ret)
.skip)
(.seq (.branch [⟨.l, .faddr 0 (.v 3), none⟩,⟨.l, .load 1 false (.l 0) false, none⟩,⟨.l, .bin .eql (.l 1) (.c (.int .i64 1)), none⟩,⟨.l, .mov (.l 2), none⟩,⟨.l, .mov (.v 0), some ((.l 3), true)⟩,⟨.l, .mov (.v 1), some ((.l 3), true)⟩,⟨.l, .faddr 1 (.v 3), some ((.l 3), true)⟩,⟨.l, .load 1 false (.l 6) false, some ((.l 3), true)⟩,⟨.l, .pcall 78 [(.l 4), (.l 5), (.l 7)], some ((.l 3), true)⟩,⟨.l, .un .not (.l 8), some ((.l 3), true)⟩,⟨.l, .pick (.l 3) (.l 9) (.c (.bool false)), none⟩] (.l 10)
(.seq (.region [⟨.v 4, .take (.c (.int .i64 14)), none⟩])
.ret)
.skip)
(.seq (.region [⟨.v 4, .take (.c (.int .i64 0)), none⟩])
.ret)))),
[.var 4], false, none, none⟩
def f_ref36_Words_l0 : PC := (.loop (.seq (.branch [⟨.l, .mov (.v 4), none⟩,⟨.l, .mov (.v 0), none⟩,⟨.l, .len true (.l 1), none⟩,⟨.l, .bin .lss (.l 0) (.l 2), none⟩] (.l 3)
.skip
(.exit 0))
(.seq (.block 1 (.branch [⟨.l, .mov (.v 0), none⟩,⟨.l, .mov (.v 4), none⟩,⟨.l, .indexStr (.l 0) (.l 1), none⟩,⟨.l, .bin .eql (.l 2) (.c (.int .u8 32)), none⟩] (.l 3)
(.seq (.region [⟨.l, .take (.v 2), none⟩,⟨.l, .mov (.v 0), none⟩,⟨.l, .mov (.v 3), none⟩,⟨.l, .mov (.v 4), none⟩,⟨.l, .slice true 1 (.l 1) (some (.l 2)) (some (.l 3)), none⟩,⟨.l, .mkslice 1 (.str []) 1 [(0, (.l 4))], none⟩,⟨.l, .append 1 16 (.l 0) (.l 5), none⟩,⟨.v 2, .take (.l 6), none⟩])
(.region [⟨.l, .mov (.v 4), none⟩,⟨.l, .bin .add (.l 0) (.c (.int .i64 1)), none⟩,⟨.v 3, .take (.l 1), none⟩]))
.skip))
(.region [⟨.l, .mov (.v 4), none⟩,⟨.l, .bin .add (.l 0) (.c (.int .i64 1)), none⟩,⟨.v 4, .take (.l 1), none⟩]))))
def f_ref36_Words : PFunc := ⟨1, 5,
(.seq (.region [⟨.v 1, .take (.c (.list true [])), none⟩])
(.seq (.branch [⟨.l, .mov (.v 0), none⟩,⟨.l, .bin .eql (.l 0) (.c (.str [])), none⟩] (.l 1)
(.seq (.region [⟨.v 1, .take (.c (.list true [])), none⟩])
.ret)
.skip)
(.seq (.region [⟨.v 2, .take (.c (.list true [])), none⟩])
(.seq (.region [⟨.v 3, .take (.c (.int .i64 0)), none⟩])
(.seq (.seq (.region [⟨.v 4, .take (.c (.int .i64 0)), none⟩])
(.block 0 f_ref36_Words_l0))
(.seq (.region [⟨.l, .take (.v 2), none⟩,⟨.l, .mov (.v 0), none⟩,⟨.l, .mov (.v 3), none⟩,⟨.l, .slice true 1 (.l 1) (some (.l 2)) none, none⟩,⟨.l, .mkslice 1 (.str []) 1 [(0, (.l 3))], none⟩,⟨.l, .append 1 16 (.l 0) (.l 4), none⟩,⟨.v 1, .take (.l 5), none⟩])
.ret)))))),
[.var 1], false, none, none⟩
def f_ref43_names_l0 : PC := (.loop (.seq (.branch [⟨.l, .mov (.v 3), none⟩,⟨.l, .mov (.v 2), none⟩,⟨.l, .bin .lss (.l 0) (.l 1), none⟩] (.l 2)
.skip
(.exit 2))
(.seq (.block 3 (.branch [⟨.l, .mov (.v 0), none⟩,⟨.l, .mov (.v 3), none⟩,⟨.l, .iaddrS 1 (.l 0) (.l 1), none⟩,⟨.l, .h (.loadc 1 false (.l 2)), none⟩,⟨.l, .mov (.v 0), none⟩,⟨.l, .mov (.v 2), none⟩,⟨.l, .iaddrS 1 (.l 4) (.l 5), none⟩,⟨.l, .h (.loadc 1 false (.l 6)), none⟩,⟨.l, .bin .eql (.l 3) (.l 7), none⟩] (.l 8)
(.seq (.region [⟨.v 1, .take (.c (.int .i64 7)), none⟩])
.ret)
.skip))
(.region [⟨.l, .mov (.v 3), none⟩,⟨.l, .bin .add (.l 0) (.c (.int .i64 1)), none⟩,⟨.v 3, .take (.l 1), none⟩]))))
def f_ref43_names_l1 : PC := (.loop (.seq (.branch [⟨.l, .mov (.v 2), none⟩,⟨.l, .mov (.v 0), none⟩,⟨.l, .len false (.l 1), none⟩,⟨.l, .bin .lss (.l 0) (.l 2), none⟩] (.l 3)
.skip
(.exit 0))
(.seq (.block 1 (.seq (.branch [⟨.l, .mov (.v 0), none⟩,⟨.l, .mov (.v 2), none⟩,⟨.l, .iaddrS 1 (.l 0) (.l 1), none⟩,⟨.l, .h (.loadc 1 false (.l 2)), none⟩,⟨.l, .pcall 32 [(.l 3)], none⟩,⟨.l, .un .not (.l 4), none⟩] (.l 5)
(.seq (.region [⟨.v 1, .take (.c (.int .i64 6)), none⟩])
.ret)
.skip)
(.seq (.region [⟨.v 3, .take (.c (.int .i64 0)), none⟩])
(.block 2 f_ref43_names_l0))))
(.region [⟨.l, .mov (.v 2), none⟩,⟨.l, .bin .add (.l 0) (.c (.int .i64 1)), none⟩,⟨.v 2, .take (.l 1), none⟩]))))
def f_ref43_names : PFunc := ⟨1, 4,
(.seq (.region [⟨.v 1, .take (.c (.int .i64 0)), none⟩])
(.seq (.branch [⟨.l, .mov (.v 0), none⟩,⟨.l, .len false (.l 0), none⟩,⟨.l, .bin .gtr (.l 1) (.c (.int .i64 384)), none⟩] (.l 2)
(.seq (.region [⟨.v 1, .take (.c (.int .i64 3)), none⟩])
.ret)
.skip)
(.seq (.seq (.region [⟨.v 2, .take (.c (.int .i64 0)), none⟩])
(.block 0 f_ref43_names_l1))
(.seq (.region [⟨.v 1, .take (.c (.int .i64 0)), none⟩])
.ret)))),
[.var 1], false, none, none⟩
def f_ref05_Type_l0 : PC := (.loop (.seq (.branch [⟨.l, .mov (.v 4), none⟩,⟨.l, .mov (.v 0), none⟩,⟨.l, .len false (.l 1), none⟩,⟨.l, .bin .lss (.l 0) (.l 2), none⟩] (.l 3)
.skip
(.exit 0))
(.seq (.block 1 (.branch [⟨.l, .mov (.v 0), none⟩,⟨.l, .mov (.v 4), none⟩,⟨.l, .iaddrS 2 (.l 0) (.l 1), none⟩,⟨.l, .faddr 0 (.l 2), none⟩,⟨.l, .h (.loadc 1 false (.l 3)), none⟩,⟨.l, .mov (.v 1), none⟩,⟨.l, .bin .eql (.l 4) (.l 5), none⟩] (.l 6)
(.seq (.region [⟨.l, .mov (.v 4), none⟩,⟨.l, .bin .add (.c (.int .i64 3)) (.l 0), none⟩,⟨.v 2, .take (.l 1), none⟩,⟨.v 3, .take (.c (.bool true)), none⟩])
.ret)
.skip))
(.region [⟨.l, .mov (.v 4), none⟩,⟨.l, .bin .add (.l 0) (.c (.int .i64 1)), none⟩,⟨.v 4, .take (.l 1), none⟩]))))
def f_ref05_Type : PFunc := ⟨2, 5,
(.seq (.region [⟨.v 2, .take (.c (.int .i64 0)), none⟩,⟨.v 3, .take (.c (.bool false)), none⟩])
(.seq (.branch [⟨.l, .mov (.v 1), none⟩,⟨.l, .bin .eql (.l 0) (.c (.str [98, 111, 111, 108])), none⟩] (.l 1)
(.seq (.region [⟨.v 2, .take (.c (.int .i64 1)), none⟩,⟨.v 3, .take (.c (.bool true)), none⟩])
.ret)
.skip)
(.seq (.branch [⟨.l, .mov (.v 1), none⟩,⟨.l, .bin .eql (.l 0) (.c (.str [105, 110, 116])), none⟩] (.l 1)
(.seq (.region [⟨.v 2, .take (.c (.int .i64 2)), none⟩,⟨.v 3, .take (.c (.bool true)), none⟩])
.ret)
.skip)
(.seq (.seq (.region [⟨.v 4, .take (.c (.int .i64 0)), none⟩])
(.block 0 f_ref05_Type_l0))
(.seq (.region [⟨.v 2, .take (.c (.int .i64 0)), none⟩,⟨.v 3, .take (.c (.bool false)), none⟩])
.ret))))),
[.var 2, .var 3], false, none, none⟩
def f_ref43_row_l0 : PC := (.loop (.seq (.branch [⟨.l, .mov (.v 6), none⟩,⟨.l, .mov (.v 2), none⟩,⟨.l, .len false (.l 1), none⟩,⟨.l, .bin .lss (.l 0) (.l 2), none⟩] (.l 3)
.skip
(.exit 0))
(.seq (.block 1 (.seq (.region [⟨.l, .mov (.v 2), none⟩,⟨.l, .mov (.v 6), none⟩,⟨.l, .iaddrS 1 (.l 0) (.l 1), none⟩,⟨.v 9, .h (.loadc 1 false (.l 2)), none⟩])
(.block 2 (.branch [⟨.l, .bin .eql (.v 9) (.c (.str [45])), none⟩,⟨.l, .take (.l 0), none⟩] (.l 1)
(.region [⟨.l, .take (.v 5), none⟩,⟨.l, .build [.int .i64 0, .int .i64 0] [], none⟩,⟨.l, .mkslice 2 (.agg [.int .i64 0, .int .i64 0]) 1 [(0, (.l 1))], none⟩,⟨.l, .append 2 16 (.l 0) (.l 2), none⟩,⟨.v 5, .take (.l 3), none⟩])
(.branch [⟨.l, .bin .eql (.v 9) (.c (.str [63])), none⟩,⟨.l, .take (.l 0), none⟩] (.l 1)
(.region [⟨.l, .take (.v 5), none⟩,⟨.l, .build [.int .i64 0, .int .i64 0] [(0, 1, (.c (.int .i64 2)))], none⟩,⟨.l, .mkslice 2 (.agg [.int .i64 0, .int .i64 0]) 1 [(0, (.l 1))], none⟩,⟨.l, .append 2 16 (.l 0) (.l 2), none⟩,⟨.v 5, .take (.l 3), none⟩])
(.seq (.region [⟨.l, .mov (.v 0), none⟩,⟨.l, .mov (.v 1), none⟩,⟨.l, .mov (.v 6), none⟩,⟨.l, .iaddrS 3 (.l 1) (.l 2), none⟩,⟨.l, .faddr 1 (.l 3), none⟩,⟨.l, .h (.loadc 1 false (.l 4)), none⟩,⟨.l, .mov (.v 2), none⟩,⟨.l, .mov (.v 6), none⟩,⟨.l, .iaddrS 1 (.l 6) (.l 7), none⟩,⟨.l, .h (.loadc 1 false (.l 8)), none⟩,⟨.l, .pcall 80 [(.l 0), (.l 5), (.l 9)], none⟩,⟨.l, .mov (.l 10), none⟩,⟨.l, .extract 0 (.l 11), none⟩,⟨.l, .extract 1 (.l 11), none⟩,⟨.v 7, .take (.l 12), none⟩,⟨.v 8, .take (.l 13), none⟩])
(.seq (.branch [⟨.l, .mov (.v 8), none⟩,⟨.l, .bin .neq (.l 0) (.c (.int .i64 0)), none⟩] (.l 1)
(.seq (.region [⟨.v 3, .take (.c (.list true [])), none⟩,⟨.v 4, .take (.c (.int .i64 5)), none⟩])
.ret)
.skip)
(.region [⟨.l, .take (.v 5), none⟩,⟨.l, .mov (.v 7), none⟩,⟨.l, .build [.int .i64 0, .int .i64 0] [(0, 1, (.c (.int .i64 1))), (1, 1, (.l 1))], none⟩,⟨.l, .mkslice 2 (.agg [.int .i64 0, .int .i64 0]) 1 [(0, (.l 2))], none⟩,⟨.l, .append 2 16 (.l 0) (.l 3), none⟩,⟨.v 5, .take (.l 4), none⟩]))))))))
(.region [⟨.l, .mov (.v 6), none⟩,⟨.l, .bin .add (.l 0) (.c (.int .i64 1)), none⟩,⟨.v 6, .take (.l 1), none⟩]))))
def f_ref43_row : PFunc := ⟨3, 10,
(.seq (.region [⟨.v 3, .take (.c (.list true [])), none⟩,⟨.v 4, .take (.c (.int .i64 0)), none⟩])
(.seq (.branch [⟨.l, .mov (.v 2), none⟩,⟨.l, .len false (.l 0), none⟩,⟨.l, .mov (.v 1), none⟩,⟨.l, .len false (.l 2), none⟩,⟨.l, .bin .neq (.l 1) (.l 3), none⟩] (.l 4)
(.seq (.region [⟨.v 3, .take (.c (.list true [])), none⟩,⟨.v 4, .take (.c (.int .i64 9)), none⟩])
.ret)
.skip)
(.seq (.region [⟨.v 5, .take (.c (.list true [])), none⟩])
(.seq (.seq (.region [⟨.v 6, .take (.c (.int .i64 0)), none⟩])
(.block 0 f_ref43_row_l0))
(.seq (.region [⟨.l, .mov (.v 5), none⟩,⟨.v 3, .take (.l 0), none⟩,⟨.v 4, .take (.c (.int .i64 0)), none⟩])
.ret))))),
[.var 3, .var 4], false, none, none⟩
def f_ref05_known : PFunc := ⟨2, 3,
(.seq (.region [⟨.v 2, .take (.c (.bool false)), none⟩])
(.seq (.region [⟨.l, .mov (.v 1), none⟩,⟨.l, .bin .eql (.l 0) (.c (.int .i64 1)), none⟩,⟨.l, .mov (.l 1), none⟩,⟨.l, .mov (.v 1), some ((.l 2), false)⟩,⟨.l, .bin .eql (.l 3) (.c (.int .i64 2)), some ((.l 2), false)⟩,⟨.l, .pick (.l 2) (.c (.bool true)) (.l 4), none⟩,⟨.l, .mov (.l 5), none⟩,⟨.l, .mov (.v 1), some ((.l 6), false)⟩,⟨.l, .bin .geq (.l 7) (.c (.int .i64 3)), some ((.l 6), false)⟩,⟨.l, .mov (.l 8), some ((.l 6), false)⟩,⟨.l, .mov (.v 1), some ((.l 9), true)⟩,⟨.l, .bin .sub (.l 10) (.c (.int .i64 3)), some ((.l 9), true)⟩,⟨.l, .mov (.v 0), some ((.l 9), true)⟩,⟨.l, .len false (.l 12), some ((.l 9), true)⟩,⟨.l, .bin .lss (.l 11) (.l 13), some ((.l 9), true)⟩,⟨.l, .pick (.l 9) (.l 14) (.c (.bool false)), some ((.l 6), false)⟩,⟨.l, .pick (.l 6) (.c (.bool true)) (.l 15), none⟩,⟨.v 2, .take (.l 16), none⟩])
.ret)),
[.var 2], false, none, none⟩
def f_ref05_Has : PFunc := ⟨3, 4,
(.seq (.region [⟨.v 3, .take (.c (.bool false)), none⟩])
(.seq (.branch [⟨.l, .mov (.v 1), none⟩,⟨.l, .bin .eql (.l 0) (.c (.int .i64 2)), none⟩] (.l 1)
(.seq (.region [⟨.l, .mov (.v 2), none⟩,⟨.l, .bin .geq (.l 0) (.c (.int .i64 (-32768))), none⟩,⟨.l, .mov (.l 1), none⟩,⟨.l, .mov (.v 2), some ((.l 2), true)⟩,⟨.l, .bin .leq (.l 3) (.c (.int .i64 32767)), some ((.l 2), true)⟩,⟨.l, .pick (.l 2) (.l 4) (.c (.bool false)), none⟩,⟨.v 3, .take (.l 5), none⟩])
.ret)
.skip)
(.seq (.region [⟨.l, .mov (.v 2), none⟩,⟨.l, .bin .geq (.l 0) (.c (.int .i64 0)), none⟩,⟨.l, .mov (.l 1), none⟩,⟨.l, .mov (.v 2), some ((.l 2), true)⟩,⟨.l, .mov (.v 0), some ((.l 2), true)⟩,⟨.l, .mov (.v 1), some ((.l 2), true)⟩,⟨.l, .pcall 81 [(.l 4), (.l 5)], some ((.l 2), true)⟩,⟨.l, .bin .lss (.l 3) (.l 6), some ((.l 2), true)⟩,⟨.l, .pick (.l 2) (.l 7) (.c (.bool false)), none⟩,⟨.v 3, .take (.l 8), none⟩])
.ret))),
[.var 3], false, none, none⟩
def f_ref05_Decimal : PFunc := ⟨1, 2,
(.seq (.region [⟨.v 1, .take (.c (.str [])), none⟩])
(.seq (.branch [⟨.l, .mov (.v 0), none⟩,⟨.l, .bin .lss (.l 0) (.c (.int .i64 0)), none⟩] (.l 1)
(.seq (.region [⟨.l, .mov (.v 0), none⟩,⟨.l, .un .neg (.l 0), none⟩,⟨.l, .pcall 79 [(.l 1)], none⟩,⟨.l, .bin .add (.c (.str [45])) (.l 2), none⟩,⟨.v 1, .take (.l 3), none⟩])
.ret)
.skip)
(.seq (.branch [⟨.l, .mov (.v 0), none⟩,⟨.l, .bin .lss (.l 0) (.c (.int .i64 10)), none⟩] (.l 1)
(.seq (.region [⟨.l, .mov (.v 0), none⟩,⟨.l, .bin .add (.c (.int .i64 48)) (.l 0), none⟩,⟨.l, .convInt .u8 (.l 1), none⟩,⟨.l, .mkslice 1 (.int .u8 0) 1 [(0, (.l 2))], none⟩,⟨.l, .b2s (.l 3), none⟩,⟨.v 1, .take (.l 4), none⟩])
.ret)
.skip)
(.seq (.region [⟨.l, .mov (.v 0), none⟩,⟨.l, .bin .quo (.l 0) (.c (.int .i64 10)), none⟩,⟨.l, .pcall 79 [(.l 1)], none⟩,⟨.l, .mov (.v 0), none⟩,⟨.l, .bin .rem (.l 3) (.c (.int .i64 10)), none⟩,⟨.l, .bin .add (.c (.int .i64 48)) (.l 4), none⟩,⟨.l, .convInt .u8 (.l 5), none⟩,⟨.l, .mkslice 1 (.int .u8 0) 1 [(0, (.l 6))], none⟩,⟨.l, .b2s (.l 7), none⟩,⟨.l, .bin .add (.l 2) (.l 8), none⟩,⟨.v 1, .take (.l 9), none⟩])
.ret)))),
[.var 1], false, none, none⟩
def f_ref05_Parse_l0 : PC := (.loop (.seq (.branch [⟨.l, .mov (.v 7), none⟩,⟨.l, .mov (.v 0), none⟩,⟨.l, .mov (.v 1), none⟩,⟨.l, .pcall 81 [(.l 1), (.l 2)], none⟩,⟨.l, .bin .lss (.l 0) (.l 3), none⟩] (.l 4)
.skip
(.exit 0))
(.seq (.block 1 (.seq (.region [⟨.l, .mov (.v 0), none⟩,⟨.l, .mov (.v 1), none⟩,⟨.l, .mov (.v 7), none⟩,⟨.l, .pcall 70 [(.l 0), (.l 1), (.l 2)], none⟩,⟨.l, .mov (.l 3), none⟩,⟨.l, .extract 0 (.l 4), none⟩,⟨.l, .extract 1 (.l 4), none⟩,⟨.v 8, .take (.l 5), none⟩,⟨.l, .take (.l 6), none⟩])
(.branch [⟨.l, .mov (.v 8), none⟩,⟨.l, .mov (.v 2), none⟩,⟨.l, .bin .eql (.l 0) (.l 1), none⟩] (.l 2)
(.seq (.region [⟨.l, .mov (.v 7), none⟩,⟨.v 3, .take (.l 0), none⟩,⟨.v 4, .take (.c (.int .i64 0)), none⟩])
.ret)
.skip)))
(.region [⟨.l, .mov (.v 7), none⟩,⟨.l, .bin .add (.l 0) (.c (.int .i64 1)), none⟩,⟨.v 7, .take (.l 1), none⟩]))))
def f_ref05_Parse : PFunc := ⟨3, 9,
(.seq (.region [⟨.v 3, .take (.c (.int .i64 0)), none⟩,⟨.v 4, .take (.c (.int .i64 0)), none⟩])
(.seq (.branch [⟨.l, .mov (.v 0), none⟩,⟨.l, .mov (.v 1), none⟩,⟨.l, .pcall 77 [(.l 0), (.l 1)], none⟩,⟨.l, .un .not (.l 2), none⟩] (.l 3)
(.seq (.region [⟨.v 3, .take (.c (.int .i64 0)), none⟩,⟨.v 4, .take (.c (.int .i64 10)), none⟩])
.ret)
.skip)
(.seq (.branch [⟨.l, .mov (.v 1), none⟩,⟨.l, .bin .eql (.l 0) (.c (.int .i64 2)), none⟩] (.l 1)
(.seq (.region [⟨.l, .mov (.v 2), none⟩,⟨.l, .pcall 82 [(.l 0)], none⟩,⟨.l, .mov (.l 1), none⟩,⟨.l, .extract 0 (.l 2), none⟩,⟨.l, .extract 1 (.l 2), none⟩,⟨.v 5, .take (.l 3), none⟩,⟨.v 6, .take (.l 4), none⟩])
(.seq (.branch [⟨.l, .mov (.v 6), none⟩,⟨.l, .un .not (.l 0), none⟩] (.l 1)
(.seq (.region [⟨.v 3, .take (.c (.int .i64 0)), none⟩,⟨.v 4, .take (.c (.int .i64 5)), none⟩])
.ret)
.skip)
(.seq (.region [⟨.l, .mov (.v 5), none⟩,⟨.v 3, .take (.l 0), none⟩,⟨.v 4, .take (.c (.int .i64 0)), none⟩])
.ret)))
.skip)
(.seq (.seq (.region [⟨.v 7, .take (.c (.int .i64 0)), none⟩])
(.block 0 f_ref05_Parse_l0))
(.seq (.region [⟨.v 3, .take (.c (.int .i64 0)), none⟩,⟨.v 4, .take (.c (.int .i64 5)), none⟩])
.ret))))),
[.var 3, .var 4], false, none, none⟩
def f_ref05_Size : PFunc := ⟨2, 3,
(.seq (.region [⟨.v 2, .take (.c (.int .i64 0)), none⟩])
(.seq (.branch [⟨.l, .mov (.v 1), none⟩,⟨.l, .bin .eql (.l 0) (.c (.int .i64 1)), none⟩] (.l 1)
(.seq (.region [⟨.v 2, .take (.c (.int .i64 2)), none⟩])
.ret)
.skip)
(.seq (.branch [⟨.l, .mov (.v 1), none⟩,⟨.l, .bin .eql (.l 0) (.c (.int .i64 2)), none⟩] (.l 1)
(.seq (.region [⟨.v 2, .take (.c (.int .i64 65536)), none⟩])
.ret)
.skip)
(.seq (.branch [⟨.l, .mov (.v 1), none⟩,⟨.l, .bin .lss (.l 0) (.c (.int .i64 3)), none⟩,⟨.l, .mov (.l 1), none⟩,⟨.l, .mov (.v 1), some ((.l 2), false)⟩,⟨.l, .bin .sub (.l 3) (.c (.int .i64 3)), some ((.l 2), false)⟩,⟨.l, .mov (.v 0), some ((.l 2), false)⟩,⟨.l, .len false (.l 5), some ((.l 2), false)⟩,⟨.l, .bin .geq (.l 4) (.l 6), some ((.l 2), false)⟩,⟨.l, .pick (.l 2) (.c (.bool true)) (.l 7), none⟩] (.l 8)
(.seq (.region [⟨.v 2, .take (.c (.int .i64 0)), none⟩])
.ret)
.skip)
(.seq (.region [⟨.l, .mov (.v 0), none⟩,⟨.l, .mov (.v 1), none⟩,⟨.l, .bin .sub (.l 1) (.c (.int .i64 3)), none⟩,⟨.l, .iaddrS 2 (.l 0) (.l 2), none⟩,⟨.l, .faddr 1 (.l 3), none⟩,⟨.l, .h (.loadc 1 false (.l 4)), none⟩,⟨.l, .len false (.l 5), none⟩,⟨.v 2, .take (.l 6), none⟩])
.ret))))),
[.var 2], false, none, none⟩
def f_ref05_number_l0 : PC := (.loop (.seq (.branch [⟨.l, .mov (.v 5), none⟩,⟨.l, .mov (.v 0), none⟩,⟨.l, .len true (.l 1), none⟩,⟨.l, .bin .lss (.l 0) (.l 2), none⟩] (.l 3)
.skip
(.exit 0))
(.seq (.block 1 (.seq (.branch [⟨.l, .mov (.v 0), none⟩,⟨.l, .mov (.v 5), none⟩,⟨.l, .indexStr (.l 0) (.l 1), none⟩,⟨.l, .bin .lss (.l 2) (.c (.int .u8 48)), none⟩,⟨.l, .mov (.l 3), none⟩,⟨.l, .mov (.v 0), some ((.l 4), false)⟩,⟨.l, .mov (.v 5), some ((.l 4), false)⟩,⟨.l, .indexStr (.l 5) (.l 6), some ((.l 4), false)⟩,⟨.l, .bin .gtr (.l 7) (.c (.int .u8 57)), some ((.l 4), false)⟩,⟨.l, .pick (.l 4) (.c (.bool true)) (.l 8), none⟩] (.l 9)
(.seq (.region [⟨.v 1, .take (.c (.int .i64 0)), none⟩,⟨.v 2, .take (.c (.bool false)), none⟩])
.ret)
.skip)
(.region [⟨.l, .mov (.v 3), none⟩,⟨.l, .bin .mul (.c (.int .i64 10)) (.l 0), none⟩,⟨.l, .mov (.v 0), none⟩,⟨.l, .mov (.v 5), none⟩,⟨.l, .indexStr (.l 2) (.l 3), none⟩,⟨.l, .convInt .i64 (.l 4), none⟩,⟨.l, .bin .add (.l 1) (.l 5), none⟩,⟨.l, .bin .sub (.l 6) (.c (.int .i64 48)), none⟩,⟨.v 3, .take (.l 7), none⟩])))
(.region [⟨.l, .mov (.v 5), none⟩,⟨.l, .bin .add (.l 0) (.c (.int .i64 1)), none⟩,⟨.v 5, .take (.l 1), none⟩]))))
def f_ref05_number : PFunc := ⟨1, 6,
(.seq (.region [⟨.v 1, .take (.c (.int .i64 0)), none⟩,⟨.v 2, .take (.c (.bool false)), none⟩])
(.seq (.region [⟨.v 3, .take (.c (.int .i64 0)), none⟩])
(.seq (.region [⟨.v 4, .take (.c (.int .i64 0)), none⟩])
(.seq (.branch [⟨.l, .mov (.v 0), none⟩,⟨.l, .len true (.l 0), none⟩,⟨.l, .bin .gtr (.l 1) (.c (.int .i64 0)), none⟩,⟨.l, .mov (.l 2), none⟩,⟨.l, .mov (.v 0), some ((.l 3), true)⟩,⟨.l, .indexStr (.l 4) (.c (.int .i64 0)), some ((.l 3), true)⟩,⟨.l, .bin .eql (.l 5) (.c (.int .u8 45)), some ((.l 3), true)⟩,⟨.l, .pick (.l 3) (.l 6) (.c (.bool false)), none⟩] (.l 7)
(.region [⟨.v 4, .take (.c (.int .i64 1)), none⟩])
.skip)
(.seq (.branch [⟨.l, .mov (.v 0), none⟩,⟨.l, .len true (.l 0), none⟩,⟨.l, .mov (.v 4), none⟩,⟨.l, .bin .eql (.l 1) (.l 2), none⟩,⟨.l, .mov (.l 3), none⟩,⟨.l, .mov (.v 0), some ((.l 4), false)⟩,⟨.l, .len true (.l 5), some ((.l 4), false)⟩,⟨.l, .bin .gtr (.l 6) (.c (.int .i64 6)), some ((.l 4), false)⟩,⟨.l, .pick (.l 4) (.c (.bool true)) (.l 7), none⟩] (.l 8)
(.seq (.region [⟨.v 1, .take (.c (.int .i64 0)), none⟩,⟨.v 2, .take (.c (.bool false)), none⟩])
.ret)
.skip)
(.seq (.seq (.region [⟨.l, .mov (.v 4), none⟩,⟨.v 5, .take (.l 0), none⟩])
(.block 0 f_ref05_number_l0))
(.seq (.branch [⟨.l, .mov (.v 4), none⟩,⟨.l, .bin .eql (.l 0) (.c (.int .i64 1)), none⟩] (.l 1)
(.region [⟨.l, .mov (.v 3), none⟩,⟨.l, .un .neg (.l 0), none⟩,⟨.v 3, .take (.l 1), none⟩])
.skip)
(.seq (.region [⟨.l, .mov (.v 3), none⟩,⟨.l, .mov (.v 3), none⟩,⟨.l, .bin .geq (.l 1) (.c (.int .i64 (-32768))), none⟩,⟨.l, .mov (.l 2), none⟩,⟨.l, .mov (.v 3), some ((.l 3), true)⟩,⟨.l, .bin .leq (.l 4) (.c (.int .i64 32767)), some ((.l 3), true)⟩,⟨.l, .pick (.l 3) (.l 5) (.c (.bool false)), none⟩,⟨.l, .mov (.l 6), none⟩,⟨.l, .mov (.v 3), some ((.l 7), true)⟩,⟨.l, .pcall 79 [(.l 8)], some ((.l 7), true)⟩,⟨.l, .mov (.v 0), some ((.l 7), true)⟩,⟨.l, .bin .eql (.l 9) (.l 10), some ((.l 7), true)⟩,⟨.l, .pick (.l 7) (.l 11) (.c (.bool false)), none⟩,⟨.v 1, .take (.l 0), none⟩,⟨.v 2, .take (.l 12), none⟩])
.ret)))))))),
[.var 1, .var 2], false, none, none⟩
def Lc : Nat → Option PFunc
 | 3 => some f_law43_light
 | 5 => some f_law43_awake
 | 6 => some f_trace_Text
 | 7 => some f_trace_Check
 | 8 => some f_trace_Parse
 | 9 => some f_ref43_Same
 | 10 => some f_ref36_Lines
 | 11 => some f_trace_Col
 | 13 => some f_trace_Rows
 | 15 => some f_law43_cells
 | 18 => some f_law43_sample
 | 19 => some f_ref04_Same
 | 20 => some f_value_Name
 | 21 => some f_trace_Text_1
 | 22 => some f_trace_word
 | 23 => some f_strings_Builder_String
 | 24 => some f_trace_columns
 | 25 => some f_trace_cell
 | 26 => some f_strings_Cut
 | 27 => some f_trace_words
 | 28 => some f_trace_parser_names
 | 29 => some f_trace_parser_types
 | 30 => some f_trace_parser_row
 | 32 => some f_ref03_Ident
 | 33 => some f_value_enum
 | 34 => some f_strings_Builder_WriteString
 | 35 => some f_strings_Join
 | 36 => some f_value_Text
 | 37 => some f_lex_Ident
 | 38 => some f_value_Has
 | 39 => some f_internal_stringslite_Cut
 | 40 => some f_value_Type
 | 41 => some f_value_Parse
 | 42 => some f_ref03_Letter
 | 43 => some f_ref03_inner
 | 44 => some f_ref03_Keyword
 | 45 => some f_value_valid
 | 46 => some f_strconv_FormatBool
 | 47 => some f_strconv_Itoa
 | 48 => some f_lex_letter
 | 49 => some f_lex_Keyword
 | 50 => some f_lex_inner
 | 51 => some f_word_In
 | 52 => some f_value_Size
 | 53 => some f_internal_stringslite_Index
 | 54 => some f_strconv_Atoi
 | 55 => some f_ref03_digit
 | 56 => some f_ref03_keywords
 | 57 => some f_internal_strconv_FormatBool
 | 58 => some f_lex_digit
 | 59 => some f_internal_stringslite_IndexByte
 | 60 => some f_internal_bytealg_Cutover
 | 61 => some f_internal_bytealg_IndexRabinKarp_string
 | 62 => some f_internal_bytealg_hashStr_string
 | _ => none
def LZ : Nat → Option PFunc
 | 3 => some f_law43_light
 | 5 => some f_law43_awake
 | 6 => some f_trace_Text
 | 7 => some f_trace_Check
 | 8 => some f_trace_Parse
 | 9 => some f_ref43_Same
 | 10 => some f_ref36_Lines
 | 11 => some f_trace_Col
 | 13 => some f_trace_Rows
 | 15 => some f_law43_cells
 | 18 => some f_law43_sample
 | 19 => some f_ref04_Same
 | 20 => some f_value_Name
 | 21 => some f_trace_Text_1
 | 22 => some f_trace_word
 | 23 => some f_strings_Builder_String
 | 24 => some f_trace_columns
 | 25 => some f_trace_cell
 | 26 => some f_strings_Cut
 | 27 => some f_trace_words
 | 28 => some f_trace_parser_names
 | 29 => some f_trace_parser_types
 | 30 => some f_trace_parser_row
 | 32 => some f_ref03_Ident
 | 33 => some f_value_enum
 | 34 => some f_strings_Builder_WriteString
 | 35 => some f_strings_Join
 | 36 => some f_value_Text
 | 37 => some f_lex_Ident
 | 38 => some f_value_Has
 | 39 => some f_internal_stringslite_Cut
 | 40 => some f_value_Type
 | 41 => some f_value_Parse
 | 42 => some f_ref03_Letter
 | 43 => some f_ref03_inner
 | 44 => some f_ref03_Keyword
 | 45 => some f_value_valid
 | 46 => some f_strconv_FormatBool
 | 47 => some f_strconv_Itoa
 | 48 => some f_lex_letter
 | 49 => some f_lex_Keyword
 | 50 => some f_lex_inner
 | 51 => some f_word_In
 | 52 => some f_value_Size
 | 53 => some f_internal_stringslite_Index
 | 54 => some f_strconv_Atoi
 | 55 => some f_ref03_digit
 | 56 => some f_ref03_keywords
 | 57 => some f_internal_strconv_FormatBool
 | 58 => some f_lex_digit
 | 59 => some f_internal_stringslite_IndexByte
 | 60 => some f_internal_bytealg_Cutover
 | 61 => some f_internal_bytealg_IndexRabinKarp_string
 | 62 => some f_internal_bytealg_hashStr_string
 | 63 => some f_law43_TraceTexts
 | 64 => some f_law43_TraceParses
 | 65 => some f_ref43_Text
 | 66 => some f_ref43_Check
 | 67 => some f_ref43_Parse
 | 68 => some f_ref05_Name
 | 69 => some f_ref43_line
 | 70 => some f_ref05_Text
 | 71 => some f_ref43_column
 | 72 => some f_ref43_cell
 | 73 => some f_ref36_Words
 | 74 => some f_ref43_names
 | 75 => some f_ref05_Type
 | 76 => some f_ref43_row
 | 77 => some f_ref05_known
 | 78 => some f_ref05_Has
 | 79 => some f_ref05_Decimal
 | 80 => some f_ref05_Parse
 | 81 => some f_ref05_Size
 | 82 => some f_ref05_number
 | _ => none
theorem LZ_c : ∀ k f, Lc k = some f → LZ k = some f := by
  intro k f h
  unfold Lc at h
  split at h <;> first | exact h | simp at h
end PI.Tr
