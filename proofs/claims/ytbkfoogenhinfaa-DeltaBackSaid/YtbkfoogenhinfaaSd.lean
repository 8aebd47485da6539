/- Functions with their shapes and what they give, printed by a program. -/
import Derived.Test.YtbkfoogenhinfaaJc
import Derived.Test.YtbkfoogenhinfaaProg
set_option maxRecDepth 100000
set_option linter.unusedVariables false
namespace Go.Ideal.Seat
open Go.Proofs
noncomputable section
def opn (f:Nat):Bool:=[131,175,133,134,72,66,73,176,135,110,159,160,111,112,113,114,115,116,163,162,117,118,183,164,119,165,120,121,122].contains f
def A_grid_size:AFn:=⟨2,[.tmp 4],
 .seq (.reg (nu [ia 4 (.mov (.c (.bool false)))]) [0,1])
(.seq (.reg (nu [ia 5 (.mov 0),
ia 6 (.bin .geq 5 (ci 1)),
ia 7 (.mov 6),
ic 7 true 8 (.mov 0),
ic 7 true 9 (.bin .leq 8 (ci 60)),
ia 10 (.pick 7 9 (.c (.bool false))),
ia 11 (.mov 10),
ic 11 true 12 (.mov 1),
ic 11 true 13 (.bin .geq 12 (ci 1)),
ia 14 (.pick 11 13 (.c (.bool false))),
ia 15 (.mov 14),
ic 15 true 16 (.mov 1),
ic 15 true 17 (.bin .leq 16 (ci 132)),
ia 18 (.pick 15 17 (.c (.bool false))),
ia 4 (.mov 18)]) [4])
(.ret)),
  []⟩
def F_grid_size (x:(Int)×Int):Option (Bool):=
 (bif ((decide (x.1≥1))==true) then (bif ((decide (x.1≤60))==true) then (bif ((decide (x.2≥1))==true) then (some (decide (x.2≤132))) else (some false)) else (some false)) else (some false))
def A_cell_Pen:AFn:=⟨1,[.tmp 2],
 .seq (.reg (nu [ia 1 (.box true 0),
ia 2 (.mov (.c (.bool false)))]) [1])
(.seq (.reg (nu [ia 3 (.fadr 0 1),
ia 4 (.load none 3),
ia 5 (.bin .geq 4 (ci 0)),
ia 6 (.mov 5),
ic 6 true 7 (.fadr 0 1),
ic 6 true 8 (.load none 7),
ic 6 true 9 (.bin .leq 8 (ci 256)),
ia 10 (.pick 6 9 (.c (.bool false))),
ia 11 (.mov 10),
ic 11 true 12 (.fadr 1 1),
ic 11 true 13 (.load none 12),
ic 11 true 14 (.bin .geq 13 (ci 0)),
ia 15 (.pick 11 14 (.c (.bool false))),
ia 16 (.mov 15),
ic 16 true 17 (.fadr 1 1),
ic 16 true 18 (.load none 17),
ic 16 true 19 (.bin .leq 18 (ci 256)),
ia 20 (.pick 16 19 (.c (.bool false))),
ia 21 (.mov 20),
ic 21 true 22 (.fadr 2 1),
ic 21 true 23 (.load none 22),
ic 21 true 24 (.bin .geq 23 (ci 0)),
ia 25 (.pick 21 24 (.c (.bool false))),
ia 26 (.mov 25),
ic 26 true 27 (.fadr 2 1),
ic 26 true 28 (.load none 27),
ic 26 true 29 (.bin .lss 28 (ci 128)),
ia 30 (.pick 26 29 (.c (.bool false))),
ia 2 (.mov 30)]) [2])
(.ret)),
  []⟩
def F_cell_Pen (x:(Int)×(Int)×Int):Option (Bool):=
 (bif ((decide (x.1≥0))==true) then (bif ((decide (x.1≤256))==true) then (bif ((decide (x.2.1≥0))==true) then (bif ((decide (x.2.1≤256))==true) then (bif ((decide (x.2.2≥0))==true) then (some (decide (x.2.2<128))) else (some false)) else (some false)) else (some false)) else (some false)) else (some false))
def A_runes_Bytes:AFn:=⟨1,[.tmp 2],
 .seq (.reg (nu [ia 2 (.mov (.c .nils))]) [0])
(.seq (.join [] [(.normal,[(0,(.val false false ⟨false,(.int .i32)⟩))])] (.seq (.join [] [(.normal,[(0,.keep),(16,(.val false false ⟨false,.bool⟩))])] (.reg (nu [ia 3 (.mov 0),
ia 4 (.bin .lss 3 (.c (.int .i32 0))),
ia 5 (.mov 4),
ic 5 false 6 (.mov 0),
ic 5 false 7 (.bin .gtr 6 (.c (.int .i32 1114111))),
ia 8 (.pick 5 (.c (.bool true)) 7),
ia 9 (.mov 8),
ic 9 false 10 (.mov 0),
ic 9 false 11 (.bin .geq 10 (.c (.int .i32 55296))),
ic 9 false 12 (.mov 11),
ic 12 true 13 (.mov 0),
ic 12 true 14 (.bin .leq 13 (.c (.int .i32 57343))),
ic 9 false 15 (.pick 12 14 (.c (.bool false))),
ia 16 (.pick 9 (.c (.bool true)) 15)]) [0,16]))
(.cond (.t 16)
 (.reg (nu [ia 0 (.mov (.c (.int .i32 65533)))]) [0])
 (.skip))))
(.seq (.reg (nu [ia 17 (.mov 0),
ia 18 (.cvIS 17),
ia 19 (.cvSB false 18),
ia 2 (.mov 19)]) [2])
(.ret))),
  []⟩
def F_runes_Bytes (x:Int):Option (List (Int)):=
 (((bif ((decide (x<0))==false) then (bif ((decide (x>1114111))==false) then (bif ((decide (x≥55296))==true) then (some (decide (x≤57343))) else (some false)) else (some true)) else (some true)).bind fun v8=>(bif v8 then (some 65533) else (some x))).bind fun v9=>(bif decide (((Utf8.encode v9).data.toList).length≤most) then (some (((Utf8.encode v9).data.toList).map fun c=>((c.toNat:Nat):Int))) else none))
def A_cell_Right:AFn:=⟨1,[.tmp 2],
 .seq (.reg (nu [ia 1 (.box true 0),
ia 2 (.mov (.c (.bool false)))]) [1])
(.seq (.seq (.join [] [(.normal,[(1,.keep),(21,(.val false false ⟨false,.bool⟩))])] (.reg (nu [ia 3 (.fadr 0 1),
ia 4 (.load none 3),
ia 5 (.bin .lss 4 (.c (.int .i32 32))),
ia 6 (.mov 5),
ic 6 false 7 (.fadr 0 1),
ic 6 false 8 (.load none 7),
ic 6 false 9 (.bin .gtr 8 (.c (.int .i32 126))),
ic 6 false 10 (.mov 9),
ic 10 true 11 (.fadr 0 1),
ic 10 true 12 (.load none 11),
ic 10 true 13 (.bin .lss 12 (.c (.int .i32 160))),
ic 6 false 14 (.pick 10 13 (.c (.bool false))),
ia 15 (.pick 6 (.c (.bool true)) 14),
ia 16 (.mov 15),
ic 16 false 17 (.fadr 1 1),
ic 16 false 18 (.load (some 3) 17),
ic 16 false 19 (.call 177 [18]),
ic 16 false 20 (.un .not 19),
ia 21 (.pick 16 (.c (.bool true)) 20)]) [1,21]))
(.cond (.t 21)
 (.seq (.reg (nu [ia 2 (.mov (.c (.bool false)))]) [2])
(.ret))
 (.skip)))
(.seq (.drw [⟨0,none,(some 22),.fadr 0 (.t 1)⟩,
 ⟨1,none,(some 23),.load none (.t 22)⟩,
 ⟨2,none,(some 24),.bin .eql (.t 23) (.c (.int .i32 65533))⟩,
 ⟨3,none,(some 25),.mov (.t 24)⟩,
 ⟨4,(some (25,false)),(some 26),.fadr 0 (.t 1)⟩,
 ⟨5,(some (25,false)),(some 27),.load none (.t 26)⟩,
 ⟨6,(some (25,false)),(some 28),.call 178 [(.t 27)]⟩,
 ⟨7,(some (25,false)),(some 29),.cvBS (.t 28)⟩,
 ⟨8,(some (25,false)),(some 30),.call 178 [(.c (.int .i32 65533))]⟩,
 ⟨9,(some (25,false)),(some 31),.cvBS (.t 30)⟩,
 ⟨10,(some (25,false)),(some 32),.bin .neq (.t 29) (.t 31)⟩,
 ⟨11,none,(some 33),.pick (.t 25) (.c (.bool true)) (.t 32)⟩,
 ⟨12,none,(some 2),.mov (.t 33)⟩] [] [2])
(.ret))),
  []⟩
def F_cell_Right (x:(Int)×(Int)×(Int)×Int):Option (Bool):=
 ((bif ((decide (x.1<32))==false) then (bif ((decide (x.1>126))==true) then (bif ((decide (x.1<160))==false) then ((F_cell_Pen x.2).bind fun r15=>(some (!r15))) else (some true)) else ((F_cell_Pen x.2).bind fun r16=>(some (!r16)))) else (some true)).bind fun v17=>(bif v17 then (some false) else (bif ((x.1==65533)==false) then ((F_runes_Bytes x.1).bind fun r18=>((F_runes_Bytes 65533).bind fun r19=>(some (!((r18.map fun n=>UInt8.ofNat (Int.toNat n))==(r19.map fun n=>UInt8.ofNat (Int.toNat n))))))) else (some true))))
def A_grid_Right:AFn:=⟨1,[.tmp 2],
 .seq (.reg (nu [ia 1 (.box true 0),
ia 2 (.mov (.c (.bool false)))]) [1])
(.seq (.seq (.join [] [(.normal,[(1,.keep),(21,(.val false false ⟨false,.bool⟩))])] (.reg (nu [ia 5 (.fadr 0 1),
ia 6 (.load none 5),
ia 7 (.fadr 1 1),
ia 8 (.load none 7),
ia 9 (.call 170 [6,8]),
ia 10 (.un .not 9),
ia 11 (.mov 10),
ic 11 false 12 (.fadr 2 1),
ic 11 false 13 (.load none 12),
ic 11 false 14 (.len false 13),
ic 11 false 15 (.fadr 0 1),
ic 11 false 16 (.load none 15),
ic 11 false 17 (.fadr 1 1),
ic 11 false 18 (.load none 17),
ic 11 false 19 (.bin .mul 16 18),
ic 11 false 20 (.bin .neq 14 19),
ia 21 (.pick 11 (.c (.bool true)) 20)]) [1,21]))
(.cond (.t 21)
 (.seq (.reg (nu [ia 2 (.mov (.c (.bool false)))]) [2])
(.ret))
 (.skip)))
(.seq (.seq (.reg (nu [ia 22 (.fadr 2 1),
ia 23 (.load none 22),
ia 24 (.len false 23),
ia 25 (.mov (ci 0))]) [23,24,25])
(.seq (.block 0 (.loop [(23,.keep),(24,.keep),(25,(.val false false ⟨false,(.int .i64)⟩))] [(.ret,[(2,(.val false false ⟨false,.bool⟩))]),(.exit 0,[(23,.keep),(24,.keep),(25,(.val false false ⟨false,(.int .i64)⟩)),(26,(.val false false ⟨false,.bool⟩))])] (.seq (.reg (nu [ia 26 (.bin .lss 25 24)]) [23,24,25,26])
(.seq (.cond (.t 26)
 (.skip)
 (.exit 0))
(.seq (.seq (.block 1 (.seq (.reg (nu [ia 27 (.iadr 4 23 25),
ia 28 (.load (some 4) 27),
ia 4 (.alloc true 4 [[(.int .i32 0),(.int .i64 0),(.int .i64 0),(.int .i64 0)]]),
ib (.store 4 4 28)]) [4,23,24,25])
(.seq (.reg (nu [ia 29 (.load (some 4) 4),
ia 30 (.call 137 [29]),
ia 31 (.un .not 30)]) [23,24,25,31])
(.cond (.t 31)
 (.seq (.reg (nu [ia 2 (.mov (.c (.bool false)))]) [2])
(.ret))
 (.skip)))))
(.reg (nu []) [23,24,25]))
(.reg (nu [ia 32 (.bin .add 25 (ci 1)),
ia 25 (.mov 32)]) [23,24,25]))))))
(.reg (nu []) [])))
(.seq (.reg (nu [ia 2 (.mov (.c (.bool true)))]) [2])
(.ret)))),
  []⟩
def F_grid_Right (x:(Int)×(Int)×List ((Int)×(Int)×(Int)×Int)):Option (Bool):=
 (((F_grid_size (x.1,x.2.1)).bind fun r44=>(bif ((!r44)==false) then (some ((((x.2.2.length):Nat):Int) != (IntKind.wrap .i64 (x.1*x.2.1)))) else (some true))).bind fun v45=>(bif v45 then (some false) else ((iterL (S:=Int) (X:=(Bool)⊕((Int)×Bool)) (fun s46=>(bif (decide (s46<(((x.2.2.length):Nat):Int))) then (bif decide (0≤s46) then ((x.2.2[(s46).toNat]?).bind fun e47=>((F_cell_Right e47).bind fun r48=>(bif (!r48) then (some (Sum.inr (Sum.inl false))) else (some (Sum.inl (IntKind.wrap .i64 (s46+1))))))) else none) else (some (Sum.inr (Sum.inr (s46,(decide (s46<(((x.2.2.length):Nat):Int))))))))) 0).bind fun w50=>match w50 with|Sum.inl v49=>(some v49)|Sum.inr w50=>(fun v51=>(some true)) w50)))
def A_runes_broken:AFn:=⟨1,[.tmp 2],
 .seq (.reg (nu [ia 2 (.mov (.c (.bool false)))]) [0])
(.seq (.reg (nu [ia 3 (.mov 0),
ia 4 (.len true 3),
ia 5 (.bin .geq 4 (ci 3)),
ia 6 (.mov 5),
ic 6 true 7 (.mov 0),
ic 6 true 8 (.slS 7 none (some (ci 3))),
ic 6 true 9 (.bin .eql 8 (.c (.str [239,191,189]))),
ia 10 (.pick 6 9 (.c (.bool false))),
ia 2 (.mov 10)]) [2])
(.ret)),
  []⟩
def F_runes_broken (x:List UInt8):Option (Bool):=
 (bif ((decide (((x.length:Nat):Int)≥3))==true) then (bif decide (0≤3∧3≤x.length) then (some (((x.drop 0).take (3-0))==([239,191,189]:List UInt8))) else none) else (some false))
def A_runes_Valid:AFn:=⟨1,[.tmp 2],
 .seq (.reg (nu [ia 2 (.mov (.c (.bool false)))]) [0])
(.seq (.reg (nu [ia 3 (.mov (ci 0))]) [0,3])
(.seq (.seq (.reg (nu [ia 6 (.mov 0),
ia 7 (.range 6)]) [0,3,7])
(.block 0 (.loop [(0,.keep),(3,(.val false false ⟨false,(.int .i64)⟩)),(7,(.box [.mark,.ty false false .str,.ty false false (.int .i64)]))] [(.ret,[(2,(.val false false ⟨false,.bool⟩))]),(.exit 0,[(0,.keep),(3,(.val false false ⟨false,(.int .i64)⟩)),(7,(.box [.mark,.ty false false .str,.ty false false (.int .i64)])),(9,(.val false false ⟨false,.bool⟩))])] (.seq (.reg (nu [ia 8 (.next 7),
ia 9 (.ext 8 0)]) [0,3,7,8,9])
(.seq (.cond (.t 9)
 (.skip)
 (.exit 0))
(.block 1 (.seq (.reg (nu [ia 10 (.ext 8 1),
ia 11 (.ext 8 2),
ia 4 (.mov 10),
ia 5 (.mov 11)]) [0,3,4,5,7])
(.seq (.seq (.join [] [(.normal,[(0,.keep),(4,.keep),(5,.keep),(7,.keep),(25,(.val false false ⟨false,.bool⟩))])] (.reg (nu [ia 12 (.mov 4),
ia 13 (.mov 3),
ia 14 (.bin .neq 12 13),
ia 15 (.mov 14),
ic 15 false 16 (.mov 5),
ic 15 false 17 (.bin .eql 16 (.c (.int .i32 65533))),
ic 15 false 18 (.mov 17),
ic 18 true 19 (.mov 0),
ic 18 true 20 (.mov 4),
ic 18 true 21 (.slS 19 (some 20) none),
ic 18 true 22 (.call 184 [21]),
ic 18 true 23 (.un .not 22),
ic 15 false 24 (.pick 18 23 (.c (.bool false))),
ia 25 (.pick 15 (.c (.bool true)) 24)]) [0,4,5,7,25]))
(.cond (.t 25)
 (.seq (.reg (nu [ia 2 (.mov (.c (.bool false)))]) [2])
(.ret))
 (.skip)))
(.reg (nu [ia 26 (.mov 4),
ia 27 (.mov 5),
ia 28 (.call 178 [27]),
ia 29 (.len false 28),
ia 30 (.bin .add 26 29),
ia 3 (.mov 30)]) [0,3,7])))))))))
(.seq (.reg (nu [ia 31 (.mov 3),
ia 32 (.mov 0),
ia 33 (.len true 32),
ia 34 (.bin .eql 31 33),
ia 2 (.mov 34)]) [2])
(.ret)))),
  []⟩
def F_runes_Valid (x:List UInt8):Option (Bool):=
 ((iterL (S:=(Int)×(Unit)×(List UInt8)×Int) (X:=(Bool)⊕((Int)×(Unit)×(List UInt8)×(Int)×Bool)) (fun s38=>(bif (decide ((0:Int)≤s38.2.2.2)) then (bif (decide ((s38.2.2.2).toNat<s38.2.2.1.length)) then ((bif (((((s38.2.2.2).toNat:Nat):Int) != s38.1)==false) then (bif (((((signAt s38.2.2.1 (s38.2.2.2).toNat).1:Nat):Int)==65533)==true) then (bif decide (0≤(((s38.2.2.2).toNat:Nat):Int)) then (bif decide (((((s38.2.2.2).toNat:Nat):Int)).toNat≤(x.length)∧(x.length)≤x.length) then ((F_runes_broken ((x.drop ((((s38.2.2.2).toNat:Nat):Int)).toNat).take ((x.length)-((((s38.2.2.2).toNat:Nat):Int)).toNat))).bind fun r39=>(some (!r39))) else none) else none) else (some false)) else (some true)).bind fun v40=>(bif v40 then (some (Sum.inr (Sum.inl false))) else ((F_runes_Bytes (((signAt s38.2.2.1 (s38.2.2.2).toNat).1:Nat):Int)).bind fun r41=>(some (Sum.inl ((IntKind.wrap .i64 ((((s38.2.2.2).toNat:Nat):Int)+(((r41.length):Nat):Int))),((),(s38.2.2.1,(((s38.2.2.2).toNat+(signAt s38.2.2.1 (s38.2.2.2).toNat).2:Nat):Int))))))))) else (some (Sum.inr (Sum.inr (s38.1,((),(s38.2.2.1,(s38.2.2.2,false)))))))) else none)) (0,((),(x,0)))).bind fun w43=>match w43 with|Sum.inl v42=>(some v42)|Sum.inr w43=>(fun v44=>(some (v44.1==((x.length:Nat):Int)))) w43)
def A_seqs_told:AFn:=⟨1,[.tmp 2],
 .seq (.reg (nu [ia 2 (.mov (.c (.bool false)))]) [0])
(.seq (.reg (nu [ia 3 (.mov 0),
ia 4 (.bin .geq 3 (.c (.int .i32 32))),
ia 5 (.mov 4),
ic 5 true 6 (.mov 0),
ic 5 true 7 (.bin .leq 6 (.c (.int .i32 126))),
ia 8 (.pick 5 7 (.c (.bool false))),
ia 9 (.mov 8),
ic 9 false 10 (.mov 0),
ic 9 false 11 (.bin .geq 10 (.c (.int .i32 160))),
ia 12 (.pick 9 (.c (.bool true)) 11),
ia 2 (.mov 12)]) [2])
(.ret)),
  []⟩
def F_seqs_told (x:Int):Option (Bool):=
 (bif ((decide (x≥32))==true) then (bif ((decide (x≤126))==false) then (some (decide (x≥160))) else (some true)) else (some (decide (x≥160))))
def A_seqs_intermediate:AFn:=⟨1,[.tmp 2],
 .seq (.reg (nu [ia 2 (.mov (.c (.bool false)))]) [0])
(.seq (.reg (nu [ia 3 (.mov 0),
ia 4 (.bin .eql 3 (.c (.int .u8 0))),
ia 5 (.mov 4),
ic 5 false 6 (.mov 0),
ic 5 false 7 (.bin .geq 6 (.c (.int .u8 32))),
ic 5 false 8 (.mov 7),
ic 8 true 9 (.mov 0),
ic 8 true 10 (.bin .leq 9 (.c (.int .u8 47))),
ic 5 false 11 (.pick 8 10 (.c (.bool false))),
ia 12 (.pick 5 (.c (.bool true)) 11),
ia 2 (.mov 12)]) [2])
(.ret)),
  []⟩
def F_seqs_intermediate (x:Int):Option (Bool):=
 (bif ((x==0)==false) then (bif ((decide (x≥32))==true) then (some (decide (x≤47))) else (some false)) else (some true))
def A_seqs_begins:AFn:=⟨1,[.tmp 2],
 .seq (.reg (nu [ia 2 (.mov (.c (.bool false)))]) [0])
(.seq (.reg (nu [ia 3 (.mov 0),
ia 4 (.bin .eql 3 (.c (.int .u8 91))),
ia 5 (.mov 4),
ic 5 false 6 (.mov 0),
ic 5 false 7 (.bin .eql 6 (.c (.int .u8 93))),
ia 8 (.pick 5 (.c (.bool true)) 7),
ia 9 (.mov 8),
ic 9 false 10 (.mov 0),
ic 9 false 11 (.bin .eql 10 (.c (.int .u8 80))),
ia 12 (.pick 9 (.c (.bool true)) 11),
ia 13 (.mov 12),
ic 13 false 14 (.mov 0),
ic 13 false 15 (.bin .eql 14 (.c (.int .u8 88))),
ia 16 (.pick 13 (.c (.bool true)) 15),
ia 17 (.mov 16),
ic 17 false 18 (.mov 0),
ic 17 false 19 (.bin .eql 18 (.c (.int .u8 94))),
ia 20 (.pick 17 (.c (.bool true)) 19),
ia 21 (.mov 20),
ic 21 false 22 (.mov 0),
ic 21 false 23 (.bin .eql 22 (.c (.int .u8 95))),
ia 24 (.pick 21 (.c (.bool true)) 23),
ia 2 (.mov 24)]) [2])
(.ret)),
  []⟩
def F_seqs_begins (x:Int):Option (Bool):=
 (bif ((x==91)==false) then (bif ((x==93)==false) then (bif ((x==80)==false) then (bif ((x==88)==false) then (bif ((x==94)==false) then (some (x==95)) else (some true)) else (some true)) else (some true)) else (some true)) else (some true))
def A_seqs_numbers:AFn:=⟨1,[.tmp 2],
 .seq (.reg (nu [ia 2 (.mov (.c (.bool false)))]) [0])
(.seq (.seq (.join [] [(.normal,[(0,.keep),(18,(.val false false ⟨false,.bool⟩))])] (.reg (nu [ia 5 (.mov 0),
ia 6 (.len false 5),
ia 7 (.bin .gtr 6 (ci 16)),
ia 8 (.mov 7),
ic 8 false 9 (.mov 0),
ic 8 false 10 (.len false 9),
ic 8 false 11 (.bin .eql 10 (ci 1)),
ic 8 false 12 (.mov 11),
ic 12 true 13 (.mov 0),
ic 12 true 14 (.iadr 1 13 (ci 0)),
ic 12 true 15 (.load none 14),
ic 12 true 16 (.bin .eql 15 (.c (.int .i64 (-1)))),
ic 8 false 17 (.pick 12 16 (.c (.bool false))),
ia 18 (.pick 8 (.c (.bool true)) 17)]) [0,18]))
(.cond (.t 18)
 (.seq (.reg (nu [ia 2 (.mov (.c (.bool false)))]) [2])
(.ret))
 (.skip)))
(.seq (.seq (.reg (nu [ia 19 (.mov 0),
ia 20 (.len false 19),
ia 21 (.mov (ci 0))]) [19,20,21])
(.block 0 (.loop [(19,.keep),(20,.keep),(21,(.val false false ⟨false,(.int .i64)⟩))] [(.ret,[(2,(.val false false ⟨false,.bool⟩))]),(.exit 0,[(19,.keep),(20,.keep),(21,(.val false false ⟨false,(.int .i64)⟩)),(22,(.val false false ⟨false,.bool⟩))])] (.seq (.reg (nu [ia 22 (.bin .lss 21 20)]) [19,20,21,22])
(.seq (.cond (.t 22)
 (.skip)
 (.exit 0))
(.seq (.block 1 (.seq (.reg (nu [ia 23 (.iadr 1 19 21),
ia 24 (.load none 23),
ia 4 (.mov 24)]) [4,19,20,21])
(.seq (.join [] [(.normal,[(19,.keep),(20,.keep),(21,.keep),(30,(.val false false ⟨false,.bool⟩))])] (.reg (nu [ia 25 (.mov 4),
ia 26 (.bin .lss 25 (.c (.int .i64 (-1)))),
ia 27 (.mov 26),
ic 27 false 28 (.mov 4),
ic 27 false 29 (.bin .gtr 28 (ci 9999)),
ia 30 (.pick 27 (.c (.bool true)) 29)]) [19,20,21,30]))
(.cond (.t 30)
 (.seq (.reg (nu [ia 2 (.mov (.c (.bool false)))]) [2])
(.ret))
 (.skip)))))
(.reg (nu [ia 31 (.bin .add 21 (ci 1)),
ia 21 (.mov 31)]) [19,20,21])))))))
(.seq (.reg (nu [ia 2 (.mov (.c (.bool true)))]) [2])
(.ret)))),
  []⟩
def F_seqs_numbers (x:List (Int)):Option (Bool):=
 ((bif ((decide ((((x.length):Nat):Int)>16))==false) then (bif (((((x.length):Nat):Int)==1)==true) then ((x[0]?).bind fun e36=>(some (e36==(-1)))) else (some false)) else (some true)).bind fun v37=>(bif v37 then (some false) else ((iterL (S:=Int) (X:=(Bool)⊕((Int)×Bool)) (fun s38=>(bif (decide (s38<(((x.length):Nat):Int))) then (bif decide (0≤s38) then ((x[(s38).toNat]?).bind fun e39=>((bif ((decide (e39<(-1)))==false) then (some (decide (e39>9999))) else (some true)).bind fun v40=>(bif v40 then (some (Sum.inr (Sum.inl false))) else (some (Sum.inl (IntKind.wrap .i64 (s38+1))))))) else none) else (some (Sum.inr (Sum.inr (s38,(decide (s38<(((x.length):Nat):Int))))))))) 0).bind fun w42=>match w42 with|Sum.inl v41=>(some v41)|Sum.inr w42=>(fun v43=>(some true)) w42)))
def A_seqs_line:AFn:=⟨1,[.tmp 2],
 .seq (.reg (nu [ia 2 (.mov (.c (.bool false)))]) [0])
(.seq (.seq (.reg (nu [ia 4 (.mov 0),
ia 5 (.len true 4),
ia 6 (.mov (ci 0))]) [0,5,6])
(.block 0 (.loop [(0,.keep),(5,.keep),(6,(.val false false ⟨false,(.int .i64)⟩))] [(.ret,[(2,(.val false false ⟨false,.bool⟩))]),(.exit 0,[(0,.keep),(5,.keep),(6,(.val false false ⟨false,(.int .i64)⟩)),(7,(.val false false ⟨false,.bool⟩))])] (.seq (.reg (nu [ia 7 (.bin .lss 6 5)]) [0,5,6,7])
(.seq (.cond (.t 7)
 (.skip)
 (.exit 0))
(.seq (.block 1 (.seq (.reg (nu [ia 8 (.mov 6),
ia 3 (.mov 8)]) [0,3,5,6])
(.seq (.join [] [(.normal,[(0,.keep),(5,.keep),(6,.keep),(18,(.val false false ⟨false,.bool⟩))])] (.reg (nu [ia 9 (.mov 0),
ia 10 (.mov 3),
ia 11 (.idxS 9 10),
ia 12 (.bin .lss 11 (.c (.int .u8 32))),
ia 13 (.mov 12),
ic 13 false 14 (.mov 0),
ic 13 false 15 (.mov 3),
ic 13 false 16 (.idxS 14 15),
ic 13 false 17 (.bin .eql 16 (.c (.int .u8 127))),
ia 18 (.pick 13 (.c (.bool true)) 17)]) [0,5,6,18]))
(.cond (.t 18)
 (.seq (.reg (nu [ia 2 (.mov (.c (.bool false)))]) [2])
(.ret))
 (.skip)))))
(.reg (nu [ia 19 (.bin .add 6 (ci 1)),
ia 6 (.mov 19)]) [0,5,6])))))))
(.seq (.reg (nu [ia 20 (.mov 0),
ia 21 (.len true 20),
ia 22 (.bin .leq 21 (ci 256)),
ia 2 (.mov 22)]) [2])
(.ret))),
  []⟩
def F_seqs_line (x:List UInt8):Option (Bool):=
 ((iterL (S:=Int) (X:=(Bool)⊕((Int)×Bool)) (fun s48=>(bif (decide (s48<((x.length:Nat):Int))) then ((bif decide (0≤s48) then ((x[(s48).toNat]?).bind fun c49=>(bif ((decide (((c49.toNat:Nat):Int)<32))==false) then (bif decide (0≤s48) then ((x[(s48).toNat]?).bind fun c50=>(some (((c50.toNat:Nat):Int)==127))) else none) else (some true))) else none).bind fun v51=>(bif v51 then (some (Sum.inr (Sum.inl false))) else (some (Sum.inl (IntKind.wrap .i64 (s48+1)))))) else (some (Sum.inr (Sum.inr (s48,(decide (s48<((x.length:Nat):Int))))))))) 0).bind fun w53=>match w53 with|Sum.inl v52=>(some v52)|Sum.inr w53=>(fun v54=>(some (decide (((x.length:Nat):Int)≤256)))) w53)
def A_seqs_Right:AFn:=⟨1,[.tmp 2],
 .seq (.reg (nu [ia 1 (.box true 0),
ia 2 (.mov (.c (.bool false)))]) [1])
(.seq (.reg (nu [ia 5 (.fadr 0 1),
ia 6 (.load none 5),
ia 7 (.build [(.int .i64 0),(.int .i32 0),(.int .u8 0),(.int .u8 0),(.int .u8 0),.nils,(.str [])] [(0,1,6)]),
ia 3 (.alloc true 7 [[(.int .i64 0),(.int .i32 0),(.int .u8 0),(.int .u8 0),(.int .u8 0),.nils,(.str [])]]),
ib (.store 7 3 7)]) [1,3])
(.seq (.reg (nu [ia 4 (.mov (.c (.bool false)))]) [1,3,4])
(.seq (.join [3] [(.normal,[(1,.keep),(3,(.box [.ty false false (.int .i64),.ty false false (.int .i32),.ty false false (.int .u8),.ty false false (.int .u8),.ty false false (.int .u8),.own (.int .i64),.ty false false .str])),(4,(.val false false ⟨false,.bool⟩))])] (.seq (.reg (nu [ia 8 (.fadr 0 1),
ia 9 (.load none 8)]) [1,3,4,9])
(.block 0 (.seq (.reg (nu [ia 11 (.bin .eql 9 (ci 1)),
ia 10 (.mov 11)]) [1,3,4,9,10])
(.cond (.t 10)
 (.seq (.reg (nu [ia 12 (.fadr 1 1),
ia 13 (.load none 12),
ia 14 (.fadr 1 3),
ib (.store 1 14 13)]) [1,3])
(.drw [⟨0,none,(some 15),.fadr 1 (.t 1)⟩,
 ⟨1,none,(some 16),.load none (.t 15)⟩,
 ⟨2,none,(some 17),.call 185 [(.t 16)]⟩,
 ⟨3,none,(some 18),.mov (.t 17)⟩,
 ⟨4,(some (18,true)),(some 19),.fadr 1 (.t 1)⟩,
 ⟨5,(some (18,true)),(some 20),.load none (.t 19)⟩,
 ⟨6,(some (18,true)),(some 21),.bin .eql (.t 20) (.c (.int .i32 65533))⟩,
 ⟨7,(some (18,true)),(some 22),.mov (.t 21)⟩,
 ⟨8,(some (22,false)),(some 23),.fadr 1 (.t 1)⟩,
 ⟨9,(some (22,false)),(some 24),.load none (.t 23)⟩,
 ⟨10,(some (22,false)),(some 25),.call 178 [(.t 24)]⟩,
 ⟨11,(some (22,false)),(some 26),.cvBS (.t 25)⟩,
 ⟨12,(some (22,false)),(some 27),.call 178 [(.c (.int .i32 65533))]⟩,
 ⟨13,(some (22,false)),(some 28),.cvBS (.t 27)⟩,
 ⟨14,(some (22,false)),(some 29),.bin .neq (.t 26) (.t 28)⟩,
 ⟨15,(some (18,true)),(some 30),.pick (.t 22) (.c (.bool true)) (.t 29)⟩,
 ⟨16,none,(some 31),.pick (.t 18) (.t 30) (.c (.bool false))⟩,
 ⟨17,none,(some 4),.mov (.t 31)⟩] [] [1,3,4]))
 (.seq (.reg (nu [ia 33 (.bin .eql 9 (ci 2)),
ia 32 (.mov 33)]) [1,3,4,9,32])
(.cond (.t 32)
 (.seq (.reg (nu [ia 34 (.fadr 2 1),
ia 35 (.load none 34),
ia 36 (.fadr 2 3),
ib (.store 1 36 35)]) [1,3])
(.reg (nu [ia 37 (.fadr 2 1),
ia 38 (.load none 37),
ia 39 (.bin .lss 38 (.c (.int .u8 32))),
ia 40 (.mov 39),
ic 40 true 41 (.fadr 2 1),
ic 40 true 42 (.load none 41),
ic 40 true 43 (.bin .neq 42 (.c (.int .u8 24))),
ia 44 (.pick 40 43 (.c (.bool false))),
ia 45 (.mov 44),
ic 45 true 46 (.fadr 2 1),
ic 45 true 47 (.load none 46),
ic 45 true 48 (.bin .neq 47 (.c (.int .u8 26))),
ia 49 (.pick 45 48 (.c (.bool false))),
ia 50 (.mov 49),
ic 50 true 51 (.fadr 2 1),
ic 50 true 52 (.load none 51),
ic 50 true 53 (.bin .neq 52 (.c (.int .u8 27))),
ia 54 (.pick 50 53 (.c (.bool false))),
ia 4 (.mov 54)]) [1,3,4]))
 (.seq (.reg (nu [ia 56 (.bin .eql 9 (ci 3)),
ia 55 (.mov 56)]) [1,3,4,9,55])
(.cond (.t 55)
 (.seq (.drw [⟨0,none,(some 57),.fadr 2 (.t 1)⟩,
 ⟨1,none,(some 58),.load none (.t 57)⟩,
 ⟨2,none,(some 59),.fadr 3 (.t 1)⟩,
 ⟨3,none,(some 60),.load none (.t 59)⟩,
 ⟨4,none,(some 61),.fadr 2 (.t 3)⟩] [⟨⟨5,none,none,.store 1 (.t 61) (.t 58)⟩,[⟨3,none,(some 60),.load none (.t 59)⟩],[⟨6,none,(some 62),.fadr 3 (.t 3)⟩]⟩,
⟨⟨7,none,none,.store 1 (.t 62) (.t 60)⟩,[],[]⟩] [1,3])
(.reg (nu [ia 63 (.fadr 2 1),
ia 64 (.load none 63),
ia 65 (.bin .geq 64 (.c (.int .u8 48))),
ia 66 (.mov 65),
ic 66 true 67 (.fadr 2 1),
ic 66 true 68 (.load none 67),
ic 66 true 69 (.bin .leq 68 (.c (.int .u8 126))),
ia 70 (.pick 66 69 (.c (.bool false))),
ia 71 (.mov 70),
ic 71 true 72 (.fadr 3 1),
ic 71 true 73 (.load none 72),
ic 71 true 74 (.call 186 [73]),
ia 75 (.pick 71 74 (.c (.bool false))),
ia 76 (.mov 75),
ic 76 true 77 (.fadr 3 1),
ic 76 true 78 (.load none 77),
ic 76 true 79 (.bin .neq 78 (.c (.int .u8 0))),
ic 76 true 80 (.mov 79),
ic 80 false 81 (.fadr 2 1),
ic 80 false 82 (.load none 81),
ic 80 false 83 (.call 187 [82]),
ic 80 false 84 (.un .not 83),
ic 76 true 85 (.pick 80 (.c (.bool true)) 84),
ia 86 (.pick 76 85 (.c (.bool false))),
ia 4 (.mov 86)]) [1,3,4]))
 (.seq (.reg (nu [ia 88 (.bin .eql 9 (ci 4)),
ia 87 (.mov 88)]) [1,3,4,9,87])
(.cond (.t 87)
 (.seq (.drw [⟨0,none,(some 89),.fadr 2 (.t 1)⟩,
 ⟨1,none,(some 90),.load none (.t 89)⟩,
 ⟨2,none,(some 91),.fadr 3 (.t 1)⟩,
 ⟨3,none,(some 92),.load none (.t 91)⟩,
 ⟨4,none,(some 93),.fadr 4 (.t 1)⟩,
 ⟨5,none,(some 94),.load none (.t 93)⟩,
 ⟨6,none,(some 95),.fadr 2 (.t 3)⟩] [⟨⟨7,none,none,.store 1 (.t 95) (.t 90)⟩,[⟨3,none,(some 92),.load none (.t 91)⟩,
 ⟨5,none,(some 94),.load none (.t 93)⟩],[⟨8,none,(some 96),.fadr 3 (.t 3)⟩]⟩,
⟨⟨9,none,none,.store 1 (.t 96) (.t 92)⟩,[⟨5,none,(some 94),.load none (.t 93)⟩],[⟨10,none,(some 97),.fadr 4 (.t 3)⟩]⟩,
⟨⟨11,none,none,.store 1 (.t 97) (.t 94)⟩,[],[]⟩] [1,3])
(.reg (nu [ia 98 (.fadr 2 1),
ia 99 (.load none 98),
ia 100 (.bin .geq 99 (.c (.int .u8 64))),
ia 101 (.mov 100),
ic 101 true 102 (.fadr 2 1),
ic 101 true 103 (.load none 102),
ic 101 true 104 (.bin .leq 103 (.c (.int .u8 126))),
ia 105 (.pick 101 104 (.c (.bool false))),
ia 106 (.mov 105),
ic 106 true 107 (.fadr 3 1),
ic 106 true 108 (.load none 107),
ic 106 true 109 (.call 186 [108]),
ia 110 (.pick 106 109 (.c (.bool false))),
ia 111 (.mov 110),
ic 111 true 112 (.fadr 4 1),
ic 111 true 113 (.load none 112),
ic 111 true 114 (.bin .eql 113 (.c (.int .u8 0))),
ic 111 true 115 (.mov 114),
ic 115 false 116 (.fadr 4 1),
ic 115 false 117 (.load none 116),
ic 115 false 118 (.bin .geq 117 (.c (.int .u8 60))),
ic 115 false 119 (.mov 118),
ic 119 true 120 (.fadr 4 1),
ic 119 true 121 (.load none 120),
ic 119 true 122 (.bin .leq 121 (.c (.int .u8 63))),
ic 115 false 123 (.pick 119 122 (.c (.bool false))),
ic 111 true 124 (.pick 115 (.c (.bool true)) 123),
ia 125 (.pick 111 124 (.c (.bool false))),
ia 126 (.mov 125),
ic 126 true 127 (.fadr 5 1),
ic 126 true 128 (.load none 127),
ic 126 true 129 (.call 188 [128]),
ia 130 (.pick 126 129 (.c (.bool false))),
ia 4 (.mov 130)]) [1,3,4]))
 (.seq (.reg (nu [ia 132 (.bin .eql 9 (ci 5)),
ia 131 (.mov 132)]) [1,3,4,131])
(.cond (.t 131)
 (.seq (.reg (nu [ia 133 (.fadr 6 1),
ia 134 (.load none 133),
ia 135 (.fadr 6 3),
ib (.store 1 135 134)]) [1,3])
(.reg (nu [ia 136 (.fadr 6 1),
ia 137 (.load none 136),
ia 138 (.call 189 [137]),
ia 4 (.mov 138)]) [1,3,4]))
 (.skip))))))))))))))
(.seq (.reg (nu [ia 139 (.mov 4),
ia 140 (.mov 139),
ic 140 true 141 (.fadr 1 1),
ic 140 true 142 (.load none 141),
ic 140 true 143 (.fadr 1 3),
ic 140 true 144 (.load none 143),
ic 140 true 145 (.bin .eql 142 144),
ia 146 (.pick 140 145 (.c (.bool false))),
ia 147 (.mov 146),
ic 147 true 148 (.fadr 2 1),
ic 147 true 149 (.load none 148),
ic 147 true 150 (.fadr 2 3),
ic 147 true 151 (.load none 150),
ic 147 true 152 (.bin .eql 149 151),
ia 153 (.pick 147 152 (.c (.bool false))),
ia 154 (.mov 153),
ic 154 true 155 (.fadr 3 1),
ic 154 true 156 (.load none 155),
ic 154 true 157 (.fadr 3 3),
ic 154 true 158 (.load none 157),
ic 154 true 159 (.bin .eql 156 158),
ia 160 (.pick 154 159 (.c (.bool false))),
ia 161 (.mov 160),
ic 161 true 162 (.fadr 4 1),
ic 161 true 163 (.load none 162),
ic 161 true 164 (.fadr 4 3),
ic 161 true 165 (.load none 164),
ic 161 true 166 (.bin .eql 163 165),
ia 167 (.pick 161 166 (.c (.bool false))),
ia 168 (.mov 167),
ic 168 true 169 (.fadr 6 1),
ic 168 true 170 (.load none 169),
ic 168 true 171 (.fadr 6 3),
ic 168 true 172 (.load none 171),
ic 168 true 173 (.bin .eql 170 172),
ia 174 (.pick 168 173 (.c (.bool false))),
ia 175 (.mov 174),
ic 175 true 176 (.fadr 0 1),
ic 175 true 177 (.load none 176),
ic 175 true 178 (.bin .eql 177 (ci 4)),
ic 175 true 179 (.mov 178),
ic 179 false 180 (.fadr 5 1),
ic 179 false 181 (.load none 180),
ic 179 false 182 (.len false 181),
ic 179 false 183 (.bin .eql 182 (ci 0)),
ic 175 true 184 (.pick 179 (.c (.bool true)) 183),
ia 185 (.pick 175 184 (.c (.bool false))),
ia 2 (.mov 185)]) [2])
(.ret))))),
  []⟩
def F_seqs_Right (x:(Int)×(Int)×(Int)×(Int)×(Int)×(List (Int))×List UInt8):Option (Bool):=
 ((bif (x.1==1) then ((F_seqs_told x.2.1).bind fun r38=>(bif (r38==true) then (bif ((x.2.1==65533)==false) then ((F_runes_Bytes x.2.1).bind fun r39=>((F_runes_Bytes 65533).bind fun r40=>(some (x.1,(x.2.1,(0,(0,(0,(([]:List (Int)),(([]:List UInt8),(!((r39.map fun n=>UInt8.ofNat (Int.toNat n))==(r40.map fun n=>UInt8.ofNat (Int.toNat n)))))))))))))) else (some (x.1,(x.2.1,(0,(0,(0,(([]:List (Int)),(([]:List UInt8),true))))))))) else (some (x.1,(x.2.1,(0,(0,(0,(([]:List (Int)),(([]:List UInt8),false)))))))))) else (bif (x.1==2) then (bif ((decide (x.2.2.1<32))==true) then (bif ((x.2.2.1 != 24)==true) then (bif ((x.2.2.1 != 26)==true) then (some (x.1,(0,(x.2.2.1,(0,(0,(([]:List (Int)),(([]:List UInt8),(x.2.2.1 != 27))))))))) else (some (x.1,(0,(x.2.2.1,(0,(0,(([]:List (Int)),(([]:List UInt8),false))))))))) else (some (x.1,(0,(x.2.2.1,(0,(0,(([]:List (Int)),(([]:List UInt8),false))))))))) else (some (x.1,(0,(x.2.2.1,(0,(0,(([]:List (Int)),(([]:List UInt8),false))))))))) else (bif (x.1==3) then (bif ((decide (x.2.2.1≥48))==true) then (bif ((decide (x.2.2.1≤126))==true) then ((F_seqs_intermediate x.2.2.2.1).bind fun r41=>(bif (r41==true) then (bif ((x.2.2.2.1 != 0)==false) then ((F_seqs_begins x.2.2.1).bind fun r42=>(some (x.1,(0,(x.2.2.1,(x.2.2.2.1,(0,(([]:List (Int)),(([]:List UInt8),(!r42)))))))))) else (some (x.1,(0,(x.2.2.1,(x.2.2.2.1,(0,(([]:List (Int)),(([]:List UInt8),true))))))))) else (some (x.1,(0,(x.2.2.1,(x.2.2.2.1,(0,(([]:List (Int)),(([]:List UInt8),false)))))))))) else (some (x.1,(0,(x.2.2.1,(x.2.2.2.1,(0,(([]:List (Int)),(([]:List UInt8),false))))))))) else (some (x.1,(0,(x.2.2.1,(x.2.2.2.1,(0,(([]:List (Int)),(([]:List UInt8),false))))))))) else (bif (x.1==4) then (bif ((decide (x.2.2.1≥64))==true) then (bif ((decide (x.2.2.1≤126))==true) then ((F_seqs_intermediate x.2.2.2.1).bind fun r43=>(bif (r43==true) then (bif ((x.2.2.2.2.1==0)==false) then (bif ((decide (x.2.2.2.2.1≥60))==true) then (bif ((decide (x.2.2.2.2.1≤63))==true) then ((F_seqs_numbers x.2.2.2.2.2.1).bind fun r44=>(some (x.1,(0,(x.2.2.1,(x.2.2.2.1,(x.2.2.2.2.1,(([]:List (Int)),(([]:List UInt8),r44))))))))) else (some (x.1,(0,(x.2.2.1,(x.2.2.2.1,(x.2.2.2.2.1,(([]:List (Int)),(([]:List UInt8),false))))))))) else (some (x.1,(0,(x.2.2.1,(x.2.2.2.1,(x.2.2.2.2.1,(([]:List (Int)),(([]:List UInt8),false))))))))) else ((F_seqs_numbers x.2.2.2.2.2.1).bind fun r45=>(some (x.1,(0,(x.2.2.1,(x.2.2.2.1,(x.2.2.2.2.1,(([]:List (Int)),(([]:List UInt8),r45)))))))))) else (some (x.1,(0,(x.2.2.1,(x.2.2.2.1,(x.2.2.2.2.1,(([]:List (Int)),(([]:List UInt8),false)))))))))) else (some (x.1,(0,(x.2.2.1,(x.2.2.2.1,(x.2.2.2.2.1,(([]:List (Int)),(([]:List UInt8),false))))))))) else (some (x.1,(0,(x.2.2.1,(x.2.2.2.1,(x.2.2.2.2.1,(([]:List (Int)),(([]:List UInt8),false))))))))) else (bif (x.1==5) then ((F_seqs_line x.2.2.2.2.2.2).bind fun r46=>(some (x.1,(0,(0,(0,(0,(([]:List (Int)),(x.2.2.2.2.2.2,r46))))))))) else (some (x.1,(0,(0,(0,(0,(([]:List (Int)),(([]:List UInt8),false))))))))))))).bind fun v47=>(bif (v47.2.2.2.2.2.2.2==true) then (bif ((x.2.1==v47.2.1)==true) then (bif ((x.2.2.1==v47.2.2.1)==true) then (bif ((x.2.2.2.1==v47.2.2.2.1)==true) then (bif ((x.2.2.2.2.1==v47.2.2.2.2.1)==true) then (bif ((x.2.2.2.2.2.2==v47.2.2.2.2.2.2.1)==true) then (bif ((x.1==4)==false) then (some ((((x.2.2.2.2.2.1.length):Nat):Int)==0)) else (some true)) else (some false)) else (some false)) else (some false)) else (some false)) else (some false)) else (some false)))
def A_paint_title:AFn:=⟨1,[.tmp 2],
 .seq (.reg (nu [ia 2 (.mov (.c (.bool false)))]) [0])
(.seq (.reg (nu [ia 3 (.mov 0),
ia 4 (.len true 3),
ia 5 (.bin .leq 4 (ci 64)),
ia 6 (.mov 5),
ic 6 true 7 (.mov 0),
ic 6 true 8 (.call 171 [7]),
ia 9 (.pick 6 8 (.c (.bool false))),
ia 10 (.mov 9),
ic 10 true 11 (.mov 0),
ic 10 true 12 (.build [(.int .i64 0),(.int .i32 0),(.int .u8 0),(.int .u8 0),(.int .u8 0),.nils,(.str [])] [(0,1,(ci 5)),(6,1,11)]),
ic 10 true 13 (.call 172 [12]),
ia 14 (.pick 10 13 (.c (.bool false))),
ia 2 (.mov 14)]) [2])
(.ret)),
  []⟩
def F_paint_title (x:List UInt8):Option (Bool):=
 (bif ((decide (((x.length:Nat):Int)≤64))==true) then ((F_runes_Valid x).bind fun r2=>(bif (r2==true) then ((F_seqs_Right (5,(0,(0,(0,(0,(([]:List (Int)),x))))))).bind fun r3=>(some r3)) else (some false))) else (some false))
def A_paint_Right:AFn:=⟨1,[.tmp 2],
 .seq (.reg (nu [ia 1 (.box true 0),
ia 2 (.mov (.c (.bool false)))]) [1])
(.seq (.seq (.join [] [(.normal,[(1,.keep),(32,(.val false false ⟨false,.bool⟩))])] (.reg (nu [ia 3 (.fadr 0 1),
ia 4 (.load (some 3) 3),
ia 5 (.call 129 [4]),
ia 6 (.un .not 5),
ia 7 (.mov 6),
ic 7 false 8 (.fadr 3 1),
ic 7 false 9 (.load none 8),
ic 7 false 10 (.bin .lss 9 (ci 0)),
ia 11 (.pick 7 (.c (.bool true)) 10),
ia 12 (.mov 11),
ic 12 false 13 (.fadr 3 1),
ic 12 false 14 (.load none 13),
ic 12 false 15 (.fadr 0 1),
ic 12 false 16 (.fadr 0 15),
ic 12 false 17 (.load none 16),
ic 12 false 18 (.bin .geq 14 17),
ia 19 (.pick 12 (.c (.bool true)) 18),
ia 20 (.mov 19),
ic 20 false 21 (.fadr 4 1),
ic 20 false 22 (.load none 21),
ic 20 false 23 (.bin .lss 22 (ci 0)),
ia 24 (.pick 20 (.c (.bool true)) 23),
ia 25 (.mov 24),
ic 25 false 26 (.fadr 4 1),
ic 25 false 27 (.load none 26),
ic 25 false 28 (.fadr 0 1),
ic 25 false 29 (.fadr 1 28),
ic 25 false 30 (.load none 29),
ic 25 false 31 (.bin .geq 27 30),
ia 32 (.pick 25 (.c (.bool true)) 31)]) [1,32]))
(.cond (.t 32)
 (.seq (.reg (nu [ia 2 (.mov (.c (.bool false)))]) [2])
(.ret))
 (.skip)))
(.seq (.reg (nu [ia 33 (.fadr 6 1),
ia 34 (.load none 33),
ia 35 (.call 130 [34]),
ia 36 (.mov 35),
ic 36 true 37 (.fadr 7 1),
ic 36 true 38 (.load none 37),
ic 36 true 39 (.bin .geq 38 (ci 0)),
ia 40 (.pick 36 39 (.c (.bool false))),
ia 41 (.mov 40),
ic 41 true 42 (.fadr 7 1),
ic 41 true 43 (.load none 42),
ic 41 true 44 (.bin .leq 43 (ci 1073741824)),
ia 45 (.pick 41 44 (.c (.bool false))),
ia 2 (.mov 45)]) [2])
(.ret))),
  []⟩
def F_paint_Right (x:(Int)×(Int)×(List ((Int)×(Int)×(Int)×Int))×(Int)×(Int)×(Bool)×(List UInt8)×Int):Option (Bool):=
 (((F_grid_Right (x.1,(x.2.1,x.2.2.1))).bind fun r9=>(bif ((!r9)==false) then (bif ((decide (x.2.2.2.1<0))==false) then (bif ((decide (x.2.2.2.1≥x.1))==false) then (bif ((decide (x.2.2.2.2.1<0))==false) then (some (decide (x.2.2.2.2.1≥x.2.1))) else (some true)) else (some true)) else (some true)) else (some true))).bind fun v10=>(bif v10 then (some false) else ((F_paint_title x.2.2.2.2.2.2.1).bind fun r11=>(bif (r11==true) then (bif ((decide (x.2.2.2.2.2.2.2≥0))==true) then (some (decide (x.2.2.2.2.2.2.2≤1073741824))) else (some false)) else (some false)))))
def A_slices_Clone_api_Cell_api_Cell:AFn:=⟨1,[.tmp 2],
 .seq (.reg (nu [ia 2 (.mov (.c .nils))]) [0])
(.seq (.seq (.reg (nu [ia 3 (.mov 0),
ia 4 (.eq false .sl 3 (.c .nils))]) [0,4])
(.cond (.t 4)
 (.seq (.reg (nu [ia 2 (.mov (.c .nils))]) [2])
(.ret))
 (.skip)))
(.seq (.reg (nu [ia 5 (.bsl true 4 [(.int .i32 0),(.int .i64 0),(.int .i64 0),(.int .i64 0)] 0 []),
ia 6 (.mov 0),
ia 7 (.app 4 32 5 6),
ia 2 (.mov 7)]) [2])
(.ret))),
  [(5,(.pair (.int .i32) (.pair (.int .i64) (.pair (.int .i64) (.int .i64))))),(7,(.pair (.int .i32) (.pair (.int .i64) (.pair (.int .i64) (.int .i64)))))]⟩
def O_slices_Clone_api_Cell_api_Cell (x:List ((Int)×(Int)×(Int)×Int)):Option (List ((Int)×(Int)×(Int)×Int)):=
 (both (((x.length):Nat)==0) (some ([]:List ((Int)×(Int)×(Int)×Int))) (bif decide ((([]:List ((Int)×(Int)×(Int)×Int)).length+x.length)*(32+1)≤most) then (some (([]:List ((Int)×(Int)×(Int)×Int))++x)) else none))
def A_cell_Blank:AFn:=⟨1,[.cell 2 (some 4)],
 .seq (.reg (nu [ia 1 (.box true 0),
ia 2 (.alloc true 4 [[(.int .i32 0),(.int .i64 0),(.int .i64 0),(.int .i64 0)]])]) [1,2])
(.seq (.reg (nu [ia 3 (.fadr 1 1),
ia 4 (.load none 3),
ia 5 (.build [(.int .i64 0),(.int .i64 0),(.int .i64 0)] [(1,1,4)]),
ia 6 (.build [(.int .i32 0),(.int .i64 0),(.int .i64 0),(.int .i64 0)] [(0,1,(.c (.int .i32 32))),(1,3,5)]),
ib (.store 4 2 6)]) [2])
(.ret)),
  []⟩
def F_cell_Blank (x:(Int)×(Int)×Int):Option ((Int)×(Int)×(Int)×Int):=
 (some (32,(0,(x.2.1,0))))
def A_grid_blanks:AFn:=⟨1,[.tmp 2],
 .seq (.reg (nu [ia 2 (.mov (.c .nils))]) [0])
(.seq (.reg (nu [ia 5 (.mov 0),
ia 6 (.mks 4 [(.int .i32 0),(.int .i64 0),(.int .i64 0),(.int .i64 0)] 32 5 5),
ia 3 (.mov 6)]) [3])
(.seq (.seq (.reg (nu [ia 7 (.mov 3),
ia 8 (.len false 7),
ia 9 (.mov (ci 0))]) [3,8,9])
(.block 0 (.loop [(3,(.own (.pair (.int .i32) (.pair (.int .i64) (.pair (.int .i64) (.int .i64)))))),(8,.keep),(9,(.val false false ⟨false,(.int .i64)⟩))] [(.exit 0,[(3,(.own (.pair (.int .i32) (.pair (.int .i64) (.pair (.int .i64) (.int .i64)))))),(8,.keep),(9,(.val false false ⟨false,(.int .i64)⟩)),(10,(.val false false ⟨false,.bool⟩))])] (.seq (.reg (nu [ia 10 (.bin .lss 9 8)]) [3,8,9,10])
(.seq (.cond (.t 10)
 (.skip)
 (.exit 0))
(.seq (.block 1 (.seq (.reg (nu [ia 11 (.mov 9),
ia 4 (.mov 11)]) [3,4,8,9])
(.reg (nu [ia 12 (.mov 3),
ia 13 (.mov 4),
ia 14 (.build [(.int .i64 0),(.int .i64 0),(.int .i64 0)] []),
ia 15 (.call 190 [14]),
ia 16 (.iadr 4 12 13),
ib (.store 4 16 15)]) [3,8,9])))
(.reg (nu [ia 17 (.bin .add 9 (ci 1)),
ia 9 (.mov 17)]) [3,8,9])))))))
(.seq (.reg (nu [ia 18 (.mov 3),
ia 2 (.mov 18)]) [2])
(.ret)))),
  [(6,(.pair (.int .i32) (.pair (.int .i64) (.pair (.int .i64) (.int .i64)))))]⟩
def O_grid_blanks (x:Int):Option (List ((Int)×(Int)×(Int)×Int)):=
 (bif decide (0≤x∧x*((32+1:Nat):Int)≤most) then ((iterL (S:=(List ((Int)×(Int)×(Int)×Int))×Int) (X:=(List ((Int)×(Int)×(Int)×Int))×(Int)×Bool) (fun s22=>(bif (decide (s22.2<((((List.replicate (Int.toNat x) ((0,(0,(0,0))):(Int)×(Int)×(Int)×Int)).length):Nat):Int))) then ((F_cell_Blank (0,(0,0))).bind fun r23=>(bif decide (0≤s22.2) then (bif decide ((s22.2).toNat<s22.1.length) then ((s22.1[(s22.2).toNat]?).bind fun e24=>(some (Sum.inl ((s22.1.set (s22.2).toNat r23),(IntKind.wrap .i64 (s22.2+1)))))) else none) else none)) else (some (Sum.inr (s22.1,(s22.2,(decide (s22.2<((((List.replicate (Int.toNat x) ((0,(0,(0,0))):(Int)×(Int)×(Int)×Int)).length):Nat):Int))))))))) ((List.replicate (Int.toNat x) ((0,(0,(0,0))):(Int)×(Int)×(Int)×Int)),0)).bind fun v25=>(some v25.1)) else none)
def A_grid_New:AFn:=⟨2,[.tmp 4,.tmp 5],
 .seq (.reg (nu [ia 4 (.mov (.c .nilp)),
ia 5 (.mov (ci 0))]) [0,1])
(.seq (.seq (.reg (nu [ia 6 (.mov 0),
ia 7 (.mov 1),
ia 8 (.call 170 [6,7]),
ia 9 (.un .not 8)]) [0,1,9])
(.cond (.t 9)
 (.seq (.reg (nu [ia 4 (.mov (.c .nilp)),
ia 5 (.mov (ci 22))]) [4,5])
(.ret))
 (.skip)))
(.seq (.reg (nu [ia 10 (.mov 0),
ia 11 (.mov 1),
ia 12 (.mov 0),
ia 13 (.mov 1),
ia 14 (.bin .mul 12 13),
ia 15 (.call 175 [14]),
ia 16 (.build [(.int .i64 0),(.int .i64 0),.nils] [(0,1,10),(1,1,11),(2,1,15)]),
ia 17 (.box false 16),
ia 4 (.mov 17),
ia 5 (.mov (ci 0))]) [4,5])
(.ret))),
  []⟩
def O_grid_New (x:(Int)×Int):Option ((Option ((Int)×(Int)×List ((Int)×(Int)×(Int)×Int)))×Int):=
 ((F_grid_size x).bind fun r5=>(bif (!r5) then (some ((none:Option ((Int)×(Int)×List ((Int)×(Int)×(Int)×Int))),22)) else ((O_grid_blanks (IntKind.wrap .i64 (x.1*x.2))).bind fun r6=>(some ((some (x.1,(x.2,r6))),0)))))
def A_grid_Board_Grid:AFn:=⟨1,[.cell 2 (some 3)],
 .seq (.reg (nu [ia 2 (.alloc true 3 [[(.int .i64 0),(.int .i64 0),.nils]])]) [0,2])
(.seq (.drw [⟨0,none,(some 3),.mov (.t 0)⟩,
 ⟨1,none,(some 4),.nilc (.t 3)⟩,
 ⟨2,none,(some 5),.fadr 0 (.t 4)⟩,
 ⟨3,none,(some 6),.load none (.t 5)⟩,
 ⟨4,none,(some 7),.mov (.t 0)⟩,
 ⟨5,none,(some 8),.nilc (.t 7)⟩,
 ⟨6,none,(some 9),.fadr 1 (.t 8)⟩,
 ⟨7,none,(some 10),.load none (.t 9)⟩,
 ⟨8,none,(some 11),.mov (.t 0)⟩,
 ⟨9,none,(some 12),.nilc (.t 11)⟩,
 ⟨10,none,(some 13),.fadr 2 (.t 12)⟩,
 ⟨11,none,(some 14),.load none (.t 13)⟩] [⟨⟨12,none,(some 15),.call 131 [(.t 14)]⟩,[⟨3,none,(some 6),.load none (.t 5)⟩,
 ⟨7,none,(some 10),.load none (.t 9)⟩],[⟨13,none,(some 16),.build [(.int .i64 0),(.int .i64 0),.nils] [(0,1,(.t 6)),(1,1,(.t 10)),(2,1,(.t 15))]⟩]⟩,
⟨⟨14,none,none,.store 3 (.t 2) (.t 16)⟩,[],[]⟩] [0,2])
(.ret)),
  []⟩
def O_grid_Board_Grid (x:(Int)×(Int)×List ((Int)×(Int)×(Int)×Int)):Option (((Int)×(Int)×List ((Int)×(Int)×(Int)×Int))×(Int)×(Int)×List ((Int)×(Int)×(Int)×Int)):=
 ((O_slices_Clone_api_Cell_api_Cell x.2.2).bind fun r2=>(bif decide (x.1=x.1) then (bif decide (x.2.1=x.2.1) then (some (x,(x.1,(x.2.1,r2)))) else none) else none))
def A_delta_fresh:AFn:=⟨2,[.cell 4 (some 3),.tmp 5],
 .seq (.reg (nu [ia 4 (.alloc true 3 [[(.int .i64 0),(.int .i64 0),.nils]]),
ia 5 (.mov (.c (.bool false)))]) [0,1,4])
(.seq (.reg (nu [ia 9 (.mov 0),
ia 10 (.mov 1),
ia 11 (.call 133 [9,10]),
ia 8 (.mov 11),
ia 12 (.ext 8 0),
ia 13 (.ext 8 1),
ia 6 (.mov 12),
ia 7 (.mov 13)]) [4,6,7])
(.seq (.seq (.reg (nu [ia 14 (.mov 7),
ia 15 (.bin .neq 14 (ci 0))]) [4,6,15])
(.cond (.t 15)
 (.seq (.reg (nu [ia 16 (.build [(.int .i64 0),(.int .i64 0),.nils] []),
ib (.store 3 4 16),
ia 5 (.mov (.c (.bool false)))]) [4,5])
(.ret))
 (.skip)))
(.seq (.reg (nu [ia 17 (.mov 6),
ia 18 (.call 134 [17]),
ib (.store 3 4 18),
ia 5 (.mov (.c (.bool true)))]) [4,5])
(.ret)))),
  []⟩
def O_delta_fresh (x:(Int)×Int):Option (((Int)×(Int)×List ((Int)×(Int)×(Int)×Int))×Bool):=
 ((O_grid_New x).bind fun r6=>(bif (r6.2 != 0) then (some ((0,(0,([]:List ((Int)×(Int)×(Int)×Int)))),false)) else ((r6.1).bind fun o7=>((O_grid_Board_Grid o7).bind fun r8=>(some (r8.2,true))))))
def A_delta_base:AFn:=⟨3,[.cell 6 (some 3)],
 .seq (.reg (nu [ia 3 (.box true 0),
ia 6 (.alloc true 3 [[(.int .i64 0),(.int .i64 0),.nils]])]) [1,2,3,6])
(.seq (.seq (.join [] [(.normal,[(1,.keep),(2,.keep),(3,.keep),(6,.keep),(20,(.val false false ⟨false,.bool⟩))])] (.reg (nu [ia 9 (.fadr 0 3),
ia 10 (.fadr 0 9),
ia 11 (.load none 10),
ia 12 (.mov 1),
ia 13 (.bin .eql 11 12),
ia 14 (.mov 13),
ic 14 true 15 (.fadr 0 3),
ic 14 true 16 (.fadr 1 15),
ic 14 true 17 (.load none 16),
ic 14 true 18 (.mov 2),
ic 14 true 19 (.bin .eql 17 18),
ia 20 (.pick 14 19 (.c (.bool false)))]) [1,2,3,6,20]))
(.cond (.t 20)
 (.seq (.reg (nu [ia 21 (.mov 1),
ia 22 (.mov 2),
ia 23 (.fadr 0 3),
ia 24 (.fadr 2 23),
ia 25 (.load none 24),
ia 26 (.call 131 [25]),
ia 27 (.build [(.int .i64 0),(.int .i64 0),.nils] [(0,1,21),(1,1,22),(2,1,26)]),
ib (.store 3 6 27)]) [6])
(.ret))
 (.skip)))
(.seq (.reg (nu [ia 29 (.mov 1),
ia 30 (.mov 2),
ia 31 (.call 72 [29,30]),
ia 28 (.mov 31),
ia 32 (.ext 28 0),
ia 33 (.ext 28 1),
ia 7 (.alloc true 3 [[(.int .i64 0),(.int .i64 0),.nils]]),
ib (.store 3 7 32),
ia 8 (.mov 33)]) [6,7])
(.seq (.reg (nu [ia 34 (.load (some 3) 7),
ib (.store 3 6 34)]) [6])
(.ret)))),
  []⟩
def O_delta_base (x:((Int)×(Int)×(List ((Int)×(Int)×(Int)×Int))×(Int)×(Int)×(Bool)×(List UInt8)×Int)×(Int)×Int):Option ((Int)×(Int)×List ((Int)×(Int)×(Int)×Int)):=
 ((bif ((x.1.1==x.2.1)==true) then (some (x.1.2.1==x.2.2)) else (some false)).bind fun v9=>(bif v9 then ((O_slices_Clone_api_Cell_api_Cell x.1.2.2.1).bind fun r10=>(some (x.2.1,(x.2.2,r10)))) else ((O_delta_fresh x.2).bind fun r11=>(some r11.1))))
def A_delta_spans:AFn:=⟨3,[.tmp 6],
 .seq (.reg (nu [ia 6 (.mov (.c .nils))]) [0,1,2])
(.seq (.reg (nu [ia 7 (.mov (.c .nils))]) [0,1,2,7])
(.seq (.reg (nu [ia 8 (.mov (.c (.bool false)))]) [0,1,2,7,8])
(.seq (.seq (.reg (nu [ia 11 (.mov 2),
ia 12 (.len false 11),
ia 13 (.mov (ci 0))]) [0,1,2,7,8,12,13])
(.block 0 (.loop [(0,.keep),(1,.keep),(2,.keep),(7,(.ow .own (.pair (.int .i64) (.pair (.int .i64) (.ow .own (.pair (.int .i32) (.pair (.int .i64) (.pair (.int .i64) (.int .i64))))))))),(8,(.val false false ⟨false,.bool⟩)),(12,.keep),(13,(.val false false ⟨false,(.int .i64)⟩))] [(.exit 0,[(0,.keep),(1,.keep),(2,.keep),(7,(.ow .own (.pair (.int .i64) (.pair (.int .i64) (.ow .own (.pair (.int .i32) (.pair (.int .i64) (.pair (.int .i64) (.int .i64))))))))),(8,(.val false false ⟨false,.bool⟩)),(12,.keep),(13,(.val false false ⟨false,(.int .i64)⟩)),(14,(.val false false ⟨false,.bool⟩))])] (.seq (.reg (nu [ia 14 (.bin .lss 13 12)]) [0,1,2,7,8,12,13,14])
(.seq (.cond (.t 14)
 (.skip)
 (.exit 0))
(.seq (.block 1 (.seq (.reg (nu [ia 15 (.mov 13),
ia 9 (.mov 15)]) [0,1,2,7,8,9,12,13])
(.seq (.seq (.drw [⟨0,none,(some 16),.mov (.t 1)⟩,
 ⟨1,none,(some 17),.mov (.t 9)⟩,
 ⟨2,none,(some 18),.iadr 4 (.t 16) (.t 17)⟩,
 ⟨3,none,(some 19),.load (some 4) (.t 18)⟩,
 ⟨4,none,(some 20),.mov (.t 2)⟩,
 ⟨5,none,(some 21),.mov (.t 9)⟩,
 ⟨6,none,(some 22),.iadr 4 (.t 20) (.t 21)⟩,
 ⟨7,none,(some 23),.load (some 4) (.t 22)⟩,
 ⟨8,none,(some 24),.eq false (.cells [.i .i32,.i .i64,.i .i64,.i .i64]) (.t 19) (.t 23)⟩] [] [0,1,2,7,8,9,12,13,24])
(.cond (.t 24)
 (.seq (.reg (nu [ia 8 (.mov (.c (.bool false)))]) [0,1,2,7,8,12,13])
(.exit 1))
 (.skip)))
(.seq (.join [7] [(.normal,[(0,.keep),(1,.keep),(2,.keep),(7,(.ow .own (.pair (.int .i64) (.pair (.int .i64) (.ow .own (.pair (.int .i32) (.pair (.int .i64) (.pair (.int .i64) (.int .i64))))))))),(8,(.val false false ⟨false,.bool⟩)),(9,.keep),(12,.keep),(13,.keep)])] (.seq (.reg (nu [ia 25 (.mov 8),
ia 26 (.un .not 25)]) [0,1,2,7,8,9,12,13,26])
(.cond (.t 26)
 (.seq (.reg (nu [ia 27 (.mov 7),
ia 28 (.mov 0),
ia 29 (.mov 9),
ia 30 (.build [(.int .i64 0),(.int .i64 0),.nils] [(0,1,28),(1,1,29)]),
ia 31 (.bsl true 3 [(.int .i64 0),(.int .i64 0),.nils] 1 [(0,30)]),
ia 32 (.app 3 40 27 31),
ia 7 (.mov 32)]) [0,1,2,7,9,12,13])
(.reg (nu [ia 8 (.mov (.c (.bool true)))]) [0,1,2,7,8,9,12,13]))
 (.skip))))
(.seq (.reg (nu [ia 33 (.mov 7),
ia 34 (.mov 7),
ia 35 (.len false 34),
ia 36 (.bin .sub 35 (ci 1)),
ia 37 (.iadr 3 33 36),
ia 10 (.mov 37)]) [0,1,2,7,8,9,10,12,13])
(.drw [⟨0,none,(some 38),.mov (.t 10)⟩,
 ⟨1,none,(some 39),.mov (.t 10)⟩,
 ⟨2,none,(some 40),.nilc (.t 39)⟩,
 ⟨3,none,(some 41),.fadr 2 (.t 40)⟩,
 ⟨4,none,(some 42),.load none (.t 41)⟩,
 ⟨5,none,(some 43),.mov (.t 2)⟩,
 ⟨6,none,(some 44),.mov (.t 9)⟩,
 ⟨7,none,(some 45),.iadr 4 (.t 43) (.t 44)⟩,
 ⟨8,none,(some 46),.load (some 4) (.t 45)⟩,
 ⟨9,none,(some 47),.bsl false 4 [(.int .i32 0),(.int .i64 0),(.int .i64 0),(.int .i64 0)] 1 [(0,(.t 46))]⟩] [⟨⟨10,none,(some 48),.app 4 32 (.t 42) (.t 47)⟩,[],[⟨11,none,(some 49),.nilc (.t 38)⟩,
 ⟨12,none,(some 50),.fadr 2 (.t 49)⟩]⟩,
⟨⟨13,none,none,.store 1 (.t 50) (.t 48)⟩,[],[]⟩] [0,1,2,7,8,12,13]))))))
(.reg (nu [ia 51 (.bin .add 13 (ci 1)),
ia 13 (.mov 51)]) [0,1,2,7,8,12,13])))))))
(.seq (.reg (nu [ia 52 (.mov 7),
ia 6 (.mov 52)]) [6])
(.ret))))),
  [(31,(.pair (.int .i64) (.pair (.int .i64) (.ow .own (.pair (.int .i32) (.pair (.int .i64) (.pair (.int .i64) (.int .i64)))))))),(32,(.pair (.int .i64) (.pair (.int .i64) (.ow .own (.pair (.int .i32) (.pair (.int .i64) (.pair (.int .i64) (.int .i64)))))))),(47,(.pair (.int .i32) (.pair (.int .i64) (.pair (.int .i64) (.int .i64))))),(48,(.pair (.int .i32) (.pair (.int .i64) (.pair (.int .i64) (.int .i64)))))]⟩
def F_delta_spans (x:(Int)×(List ((Int)×(Int)×(Int)×Int))×List ((Int)×(Int)×(Int)×Int)):Option (List ((Int)×(Int)×List ((Int)×(Int)×(Int)×Int))):=
 ((iterL (S:=(List ((Int)×(Int)×List ((Int)×(Int)×(Int)×Int)))×(Bool)×Int) (X:=(List ((Int)×(Int)×List ((Int)×(Int)×(Int)×Int)))×(Bool)×(Int)×Bool) (fun s44=>(bif (decide (s44.2.2<(((x.2.2.length):Nat):Int))) then (bif decide (0≤s44.2.2) then ((x.2.1[(s44.2.2).toNat]?).bind fun e45=>(bif decide (0≤s44.2.2) then ((x.2.2[(s44.2.2).toNat]?).bind fun e46=>(bif ((e45.1==e46.1)&&((e45.2.1==e46.2.1)&&((e45.2.2.1==e46.2.2.1)&&((e45.2.2.2==e46.2.2.2)&&true)))) then (some (Sum.inl (s44.1,(false,(IntKind.wrap .i64 (s44.2.2+1)))))) else ((bif (!s44.2.1) then (bif decide ((s44.1.length+([(x.1,(s44.2.2,([]:List ((Int)×(Int)×(Int)×Int))))]:List ((Int)×(Int)×List ((Int)×(Int)×(Int)×Int))).length)*(40+1)≤most) then (some ((s44.1++([(x.1,(s44.2.2,([]:List ((Int)×(Int)×(Int)×Int))))]:List ((Int)×(Int)×List ((Int)×(Int)×(Int)×Int)))),true)) else none) else (some (s44.1,s44.2.1))).bind fun v47=>(bif decide (0≤(IntKind.wrap .i64 ((((v47.1.length):Nat):Int)-1))) then (bif decide (((IntKind.wrap .i64 ((((v47.1.length):Nat):Int)-1))).toNat<v47.1.length) then ((v47.1[((IntKind.wrap .i64 ((((v47.1.length):Nat):Int)-1))).toNat]?).bind fun e48=>(bif decide (0≤s44.2.2) then ((x.2.2[(s44.2.2).toNat]?).bind fun e49=>(bif decide ((e48.2.2.length+([e49]:List ((Int)×(Int)×(Int)×Int)).length)*(32+1)≤most) then (bif decide (((IntKind.wrap .i64 ((((v47.1.length):Nat):Int)-1))).toNat=((IntKind.wrap .i64 ((((v47.1.length):Nat):Int)-1))).toNat) then (some (Sum.inl ((v47.1.set ((IntKind.wrap .i64 ((((v47.1.length):Nat):Int)-1))).toNat (e48.1,(e48.2.1,(e48.2.2++([e49]:List ((Int)×(Int)×(Int)×Int)))))),(v47.2,(IntKind.wrap .i64 (s44.2.2+1)))))) else none) else none)) else none)) else none) else none)))) else none)) else none) else (some (Sum.inr (s44.1,(s44.2.1,(s44.2.2,(decide (s44.2.2<(((x.2.2.length):Nat):Int)))))))))) (([]:List ((Int)×(Int)×List ((Int)×(Int)×(Int)×Int))),(false,0))).bind fun v50=>(some v50.1))
def A_delta_Of:AFn:=⟨2,[.cell 4 (some 8),.tmp 5],
 .seq (.reg (nu [ia 2 (.box true 0),
ia 3 (.box true 1),
ia 4 (.alloc true 8 [[(.int .i64 0),(.int .i64 0),.nils,(.int .i64 0),(.int .i64 0),(.bool false),(.str []),(.int .i64 0)]]),
ia 5 (.mov (ci 0))]) [2,3,4])
(.seq (.seq (.join [] [(.normal,[(2,.keep),(3,.keep),(4,.keep),(20,(.val false false ⟨false,.bool⟩))])] (.reg (nu [ia 13 (.load (some 8) 2),
ia 14 (.call 65 [13]),
ia 15 (.un .not 14),
ia 16 (.mov 15),
ic 16 false 17 (.load (some 8) 3),
ic 16 false 18 (.call 65 [17]),
ic 16 false 19 (.un .not 18),
ia 20 (.pick 16 (.c (.bool true)) 19)]) [2,3,4,20]))
(.cond (.t 20)
 (.seq (.reg (nu [ia 21 (.build [(.int .i64 0),(.int .i64 0),.nils,(.int .i64 0),(.int .i64 0),(.bool false),(.str []),(.int .i64 0)] []),
ib (.store 8 4 21),
ia 5 (.mov (ci 1))]) [4,5])
(.ret))
 (.skip)))
(.seq (.drw [⟨0,none,(some 22),.fadr 0 (.t 3)⟩,
 ⟨1,none,(some 23),.fadr 0 (.t 22)⟩,
 ⟨2,none,(some 24),.load none (.t 23)⟩,
 ⟨3,none,(some 25),.fadr 0 (.t 3)⟩,
 ⟨4,none,(some 26),.fadr 1 (.t 25)⟩,
 ⟨5,none,(some 27),.load none (.t 26)⟩,
 ⟨6,none,(some 6),.mov (.t 24)⟩,
 ⟨7,none,(some 7),.mov (.t 27)⟩] [] [2,3,4,6,7])
(.seq (.reg (nu [ia 28 (.mov 6),
ia 29 (.mov 7),
ia 30 (.fadr 3 3),
ia 31 (.load none 30),
ia 32 (.fadr 4 3),
ia 33 (.load none 32),
ia 34 (.fadr 5 3),
ia 35 (.load none 34),
ia 36 (.fadr 6 3),
ia 37 (.load none 36),
ia 38 (.fadr 7 3),
ia 39 (.load none 38),
ia 40 (.build [(.int .i64 0),(.int .i64 0),.nils,(.int .i64 0),(.int .i64 0),(.bool false),(.str []),(.int .i64 0)] [(0,1,28),(1,1,29),(3,1,31),(4,1,33),(5,1,35),(6,1,37),(7,1,39)]),
ia 8 (.alloc true 8 [[(.int .i64 0),(.int .i64 0),.nils,(.int .i64 0),(.int .i64 0),(.bool false),(.str []),(.int .i64 0)]]),
ib (.store 8 8 40)]) [2,3,4,6,7,8])
(.seq (.reg (nu [ia 41 (.load (some 8) 2),
ia 42 (.mov 6),
ia 43 (.mov 7),
ia 44 (.call 66 [41,42,43]),
ia 9 (.alloc true 3 [[(.int .i64 0),(.int .i64 0),.nils]]),
ib (.store 3 9 44)]) [3,4,6,7,8,9])
(.seq (.seq (.reg (nu [ia 45 (.mov 6),
ia 46 (.mov (ci 0))]) [3,4,7,8,9,45,46])
(.seq (.block 0 (.loop [(3,.keep),(4,.keep),(7,.keep),(8,(.box [.ty false false (.int .i64),.ty false false (.int .i64),.own (.pair (.int .i64) (.pair (.int .i64) (.lst (.pair (.int .i32) (.pair (.int .i64) (.pair (.int .i64) (.int .i64))))))),.ty false false (.int .i64),.ty false false (.int .i64),.ty false false .bool,.ty false false .str,.ty false false (.int .i64)])),(9,.keep),(45,.keep),(46,(.val false false ⟨false,(.int .i64)⟩))] [(.exit 0,[(3,.keep),(4,.keep),(7,.keep),(8,(.box [.ty false false (.int .i64),.ty false false (.int .i64),.own (.pair (.int .i64) (.pair (.int .i64) (.lst (.pair (.int .i32) (.pair (.int .i64) (.pair (.int .i64) (.int .i64))))))),.ty false false (.int .i64),.ty false false (.int .i64),.ty false false .bool,.ty false false .str,.ty false false (.int .i64)])),(9,.keep),(45,.keep),(46,(.val false false ⟨false,(.int .i64)⟩)),(47,(.val false false ⟨false,.bool⟩))])] (.seq (.reg (nu [ia 47 (.bin .lss 46 45)]) [3,4,7,8,9,45,46,47])
(.seq (.cond (.t 47)
 (.skip)
 (.exit 0))
(.seq (.block 1 (.seq (.reg (nu [ia 48 (.mov 46),
ia 10 (.mov 48)]) [3,4,7,8,9,10,45,46])
(.seq (.reg (nu [ia 49 (.mov 10),
ia 50 (.mov 7),
ia 51 (.bin .mul 49 50),
ia 52 (.mov 10),
ia 53 (.bin .add 52 (ci 1)),
ia 54 (.mov 7),
ia 55 (.bin .mul 53 54),
ia 11 (.mov 51),
ia 12 (.mov 55)]) [3,4,7,8,9,10,11,12,45,46])
(.drw [⟨0,none,(some 56),.fadr 2 (.t 8)⟩,
 ⟨1,none,(some 57),.load none (.t 56)⟩,
 ⟨2,none,(some 58),.mov (.t 10)⟩,
 ⟨3,none,(some 59),.fadr 2 (.t 9)⟩,
 ⟨4,none,(some 60),.load none (.t 59)⟩,
 ⟨5,none,(some 61),.mov (.t 11)⟩,
 ⟨6,none,(some 62),.mov (.t 12)⟩,
 ⟨7,none,(some 63),.slL 4 (.t 60) (some (.t 61)) (some (.t 62)) none⟩,
 ⟨8,none,(some 64),.fadr 0 (.t 3)⟩,
 ⟨9,none,(some 65),.fadr 2 (.t 64)⟩,
 ⟨10,none,(some 66),.load none (.t 65)⟩,
 ⟨11,none,(some 67),.mov (.t 11)⟩,
 ⟨12,none,(some 68),.mov (.t 12)⟩,
 ⟨13,none,(some 69),.slL 4 (.t 66) (some (.t 67)) (some (.t 68)) none⟩,
 ⟨14,none,(some 70),.call 67 [(.t 58),(.t 63),(.t 69)]⟩] [⟨⟨15,none,(some 71),.app 3 40 (.t 57) (.t 70)⟩,[],[⟨16,none,(some 72),.fadr 2 (.t 8)⟩]⟩,
⟨⟨17,none,none,.store 1 (.t 72) (.t 71)⟩,[],[]⟩] [3,4,7,8,9,45,46]))))
(.reg (nu [ia 73 (.bin .add 46 (ci 1)),
ia 46 (.mov 73)]) [3,4,7,8,9,45,46]))))))
(.reg (nu []) [4,8])))
(.seq (.reg (nu [ia 74 (.load (some 8) 8),
ib (.store 8 4 74),
ia 5 (.mov (ci 0))]) [4,5])
(.ret))))))),
  [(71,(.pair (.int .i64) (.pair (.int .i64) (.lst (.pair (.int .i32) (.pair (.int .i64) (.pair (.int .i64) (.int .i64))))))))]⟩
def F_delta_Of (x:((Int)×(Int)×(List ((Int)×(Int)×(Int)×Int))×(Int)×(Int)×(Bool)×(List UInt8)×Int)×(Int)×(Int)×(List ((Int)×(Int)×(Int)×Int))×(Int)×(Int)×(Bool)×(List UInt8)×Int):Option (((Int)×(Int)×(List ((Int)×(Int)×List ((Int)×(Int)×(Int)×Int)))×(Int)×(Int)×(Bool)×(List UInt8)×Int)×Int):=
 (((F_paint_Right x.1).bind fun r29=>(bif ((!r29)==false) then ((F_paint_Right x.2).bind fun r30=>(some (!r30))) else (some true))).bind fun v31=>(bif v31 then (some ((0,(0,(([]:List ((Int)×(Int)×List ((Int)×(Int)×(Int)×Int))),(0,(0,(false,(([]:List UInt8),0))))))),1)) else ((O_delta_base (x.1,(x.2.1,x.2.2.1))).bind fun r32=>((iterL (S:=(Int)×(Int)×(List ((Int)×(Int)×List ((Int)×(Int)×(Int)×Int)))×(Int)×(Int)×(Bool)×(List UInt8)×(Int)×Int) (X:=(Int)×(Int)×(List ((Int)×(Int)×List ((Int)×(Int)×(Int)×Int)))×(Int)×(Int)×(Bool)×(List UInt8)×(Int)×(Int)×Bool) (fun s33=>(bif (decide (s33.2.2.2.2.2.2.2.2<x.2.1)) then (bif decide (0≤(IntKind.wrap .i64 (s33.2.2.2.2.2.2.2.2*x.2.2.1))) then (bif decide (0≤(IntKind.wrap .i64 ((IntKind.wrap .i64 (s33.2.2.2.2.2.2.2.2+1))*x.2.2.1))) then (bif decide (((IntKind.wrap .i64 (s33.2.2.2.2.2.2.2.2*x.2.2.1))).toNat≤((IntKind.wrap .i64 ((IntKind.wrap .i64 (s33.2.2.2.2.2.2.2.2+1))*x.2.2.1))).toNat∧((IntKind.wrap .i64 ((IntKind.wrap .i64 (s33.2.2.2.2.2.2.2.2+1))*x.2.2.1))).toNat≤r32.2.2.length) then (bif decide (0≤(IntKind.wrap .i64 (s33.2.2.2.2.2.2.2.2*x.2.2.1))) then (bif decide (0≤(IntKind.wrap .i64 ((IntKind.wrap .i64 (s33.2.2.2.2.2.2.2.2+1))*x.2.2.1))) then (bif decide (((IntKind.wrap .i64 (s33.2.2.2.2.2.2.2.2*x.2.2.1))).toNat≤((IntKind.wrap .i64 ((IntKind.wrap .i64 (s33.2.2.2.2.2.2.2.2+1))*x.2.2.1))).toNat∧((IntKind.wrap .i64 ((IntKind.wrap .i64 (s33.2.2.2.2.2.2.2.2+1))*x.2.2.1))).toNat≤x.2.2.2.1.length) then ((F_delta_spans (s33.2.2.2.2.2.2.2.2,(((r32.2.2.drop ((IntKind.wrap .i64 (s33.2.2.2.2.2.2.2.2*x.2.2.1))).toNat).take (((IntKind.wrap .i64 ((IntKind.wrap .i64 (s33.2.2.2.2.2.2.2.2+1))*x.2.2.1))).toNat-((IntKind.wrap .i64 (s33.2.2.2.2.2.2.2.2*x.2.2.1))).toNat)),((x.2.2.2.1.drop ((IntKind.wrap .i64 (s33.2.2.2.2.2.2.2.2*x.2.2.1))).toNat).take (((IntKind.wrap .i64 ((IntKind.wrap .i64 (s33.2.2.2.2.2.2.2.2+1))*x.2.2.1))).toNat-((IntKind.wrap .i64 (s33.2.2.2.2.2.2.2.2*x.2.2.1))).toNat))))).bind fun r34=>(bif decide ((s33.2.2.1.length+r34.length)*(40+1)≤most) then (some (Sum.inl (s33.1,(s33.2.1,((s33.2.2.1++r34),(s33.2.2.2.1,(s33.2.2.2.2.1,(s33.2.2.2.2.2.1,(s33.2.2.2.2.2.2.1,(s33.2.2.2.2.2.2.2.1,(IntKind.wrap .i64 (s33.2.2.2.2.2.2.2.2+1)))))))))))) else none)) else none) else none) else none) else none) else none) else none) else (some (Sum.inr (s33.1,(s33.2.1,(s33.2.2.1,(s33.2.2.2.1,(s33.2.2.2.2.1,(s33.2.2.2.2.2.1,(s33.2.2.2.2.2.2.1,(s33.2.2.2.2.2.2.2.1,(s33.2.2.2.2.2.2.2.2,(decide (s33.2.2.2.2.2.2.2.2<x.2.1))))))))))))))) (x.2.1,(x.2.2.1,(([]:List ((Int)×(Int)×List ((Int)×(Int)×(Int)×Int))),(x.2.2.2.2.1,(x.2.2.2.2.2.1,(x.2.2.2.2.2.2.1,(x.2.2.2.2.2.2.2.1,(x.2.2.2.2.2.2.2.2,0))))))))).bind fun v35=>(some ((v35.1,(v35.2.1,(v35.2.2.1,(v35.2.2.2.1,(v35.2.2.2.2.1,(v35.2.2.2.2.2.1,(v35.2.2.2.2.2.2.1,v35.2.2.2.2.2.2.2.1))))))),0))))))
def A_delta_Count:AFn:=⟨1,[.tmp 2],
 .seq (.reg (nu [ia 1 (.box true 0),
ia 2 (.mov (ci 0))]) [1])
(.seq (.reg (nu [ia 3 (.mov (ci 0))]) [1,3])
(.seq (.seq (.reg (nu [ia 6 (.fadr 2 1),
ia 7 (.load none 6),
ia 8 (.len false 7),
ia 9 (.mov (ci 0))]) [3,7,8,9])
(.seq (.block 0 (.loop [(3,(.val false false ⟨false,(.int .i64)⟩)),(7,.keep),(8,.keep),(9,(.val false false ⟨false,(.int .i64)⟩))] [(.exit 0,[(3,(.val false false ⟨false,(.int .i64)⟩)),(7,.keep),(8,.keep),(9,(.val false false ⟨false,(.int .i64)⟩)),(10,(.val false false ⟨false,.bool⟩))])] (.seq (.reg (nu [ia 10 (.bin .lss 9 8)]) [3,7,8,9,10])
(.seq (.cond (.t 10)
 (.skip)
 (.exit 0))
(.seq (.seq (.block 1 (.seq (.reg (nu [ia 11 (.iadr 3 7 9),
ia 12 (.load (some 3) 11),
ia 5 (.alloc true 3 [[(.int .i64 0),(.int .i64 0),.nils]]),
ib (.store 3 5 12)]) [3,5,7,8,9])
(.reg (nu [ia 13 (.mov 3),
ia 14 (.fadr 2 5),
ia 15 (.load none 14),
ia 16 (.len false 15),
ia 17 (.bin .add 13 16),
ia 3 (.mov 17)]) [3,7,8,9])))
(.reg (nu []) [3,7,8,9]))
(.reg (nu [ia 18 (.bin .add 9 (ci 1)),
ia 9 (.mov 18)]) [3,7,8,9]))))))
(.reg (nu []) [3])))
(.seq (.reg (nu [ia 19 (.mov 3),
ia 2 (.mov 19)]) [2])
(.ret)))),
  []⟩
def F_delta_Count (x:(Int)×(Int)×(List ((Int)×(Int)×List ((Int)×(Int)×(Int)×Int)))×(Int)×(Int)×(Bool)×(List UInt8)×Int):Option (Int):=
 ((iterL (S:=(Int)×Int) (X:=(Int)×(Int)×Bool) (fun s19=>(bif (decide (s19.2<(((x.2.2.1.length):Nat):Int))) then (bif decide (0≤s19.2) then ((x.2.2.1[(s19.2).toNat]?).bind fun e20=>(some (Sum.inl ((IntKind.wrap .i64 (s19.1+(((e20.2.2.length):Nat):Int))),(IntKind.wrap .i64 (s19.2+1)))))) else none) else (some (Sum.inr (s19.1,(s19.2,(decide (s19.2<(((x.2.2.1.length):Nat):Int))))))))) (0,0)).bind fun v21=>(some v21.1))
def A_batonlaw18_awake:AFn:=⟨0,[.tmp 0],
 .seq (.reg (nu [ia 0 (.mov (.c (.bool false)))]) [])
(.seq (.reg (nu [ia 7 (.build [(.int .i32 0),(.int .i64 0),(.int .i64 0),(.int .i64 0)] [(0,1,(.c (.int .i32 97)))]),
ia 8 (.build [(.int .i32 0),(.int .i64 0),(.int .i64 0),(.int .i64 0)] [(0,1,(.c (.int .i32 98)))]),
ia 9 (.bsl false 4 [(.int .i32 0),(.int .i64 0),(.int .i64 0),(.int .i64 0)] 2 [(0,7),(1,8)]),
ia 10 (.build [(.int .i64 0),(.int .i64 0),.nils] [(0,1,(ci 1)),(1,1,(ci 2)),(2,1,9)]),
ia 11 (.build [(.int .i64 0),(.int .i64 0),.nils,(.int .i64 0),(.int .i64 0),(.bool false),(.str []),(.int .i64 0)] [(0,3,10)]),
ia 1 (.alloc true 8 [[(.int .i64 0),(.int .i64 0),.nils,(.int .i64 0),(.int .i64 0),(.bool false),(.str []),(.int .i64 0)]]),
ib (.store 8 1 11)]) [1])
(.seq (.reg (nu [ia 12 (.build [(.int .i32 0),(.int .i64 0),(.int .i64 0),(.int .i64 0)] [(0,1,(.c (.int .i32 97)))]),
ia 13 (.build [(.int .i32 0),(.int .i64 0),(.int .i64 0),(.int .i64 0)] [(0,1,(.c (.int .i32 99)))]),
ia 14 (.bsl false 4 [(.int .i32 0),(.int .i64 0),(.int .i64 0),(.int .i64 0)] 2 [(0,12),(1,13)]),
ia 15 (.build [(.int .i64 0),(.int .i64 0),.nils] [(0,1,(ci 1)),(1,1,(ci 2)),(2,1,14)]),
ia 16 (.build [(.int .i64 0),(.int .i64 0),.nils,(.int .i64 0),(.int .i64 0),(.bool false),(.str []),(.int .i64 0)] [(0,3,15)]),
ia 2 (.alloc true 8 [[(.int .i64 0),(.int .i64 0),.nils,(.int .i64 0),(.int .i64 0),(.bool false),(.str []),(.int .i64 0)]]),
ib (.store 8 2 16)]) [1,2])
(.seq (.reg (nu [ia 18 (.load (some 8) 1),
ia 19 (.load (some 8) 1),
ia 20 (.call 25 [18,19]),
ia 17 (.mov 20),
ia 21 (.ext 17 0),
ia 22 (.ext 17 1),
ia 3 (.alloc true 8 [[(.int .i64 0),(.int .i64 0),.nils,(.int .i64 0),(.int .i64 0),(.bool false),(.str []),(.int .i64 0)]]),
ib (.store 8 3 21),
ia 4 (.mov 22)]) [1,2,3,4])
(.seq (.reg (nu [ia 24 (.load (some 8) 1),
ia 25 (.load (some 8) 2),
ia 26 (.call 25 [24,25]),
ia 23 (.mov 26),
ia 27 (.ext 23 0),
ia 28 (.ext 23 1),
ia 5 (.alloc true 8 [[(.int .i64 0),(.int .i64 0),.nils,(.int .i64 0),(.int .i64 0),(.bool false),(.str []),(.int .i64 0)]]),
ib (.store 8 5 27),
ia 6 (.mov 28)]) [3,4,5,6])
(.seq (.reg (nu [ia 29 (.mov 4),
ia 30 (.bin .eql 29 (ci 0)),
ia 31 (.mov 30),
ic 31 true 32 (.mov 6),
ic 31 true 33 (.bin .eql 32 (ci 0)),
ia 34 (.pick 31 33 (.c (.bool false))),
ia 35 (.mov 34),
ic 35 true 36 (.fadr 2 3),
ic 35 true 37 (.load none 36),
ic 35 true 38 (.len false 37),
ic 35 true 39 (.bin .eql 38 (ci 0)),
ia 40 (.pick 35 39 (.c (.bool false))),
ia 41 (.mov 40),
ic 41 true 42 (.fadr 2 5),
ic 41 true 43 (.load none 42),
ic 41 true 44 (.len false 43),
ic 41 true 45 (.bin .eql 44 (ci 1)),
ia 46 (.pick 41 45 (.c (.bool false))),
ia 47 (.mov 46),
ic 47 true 48 (.fadr 2 5),
ic 47 true 49 (.load none 48),
ic 47 true 50 (.iadr 3 49 (ci 0)),
ic 47 true 51 (.fadr 1 50),
ic 47 true 52 (.load none 51),
ic 47 true 53 (.bin .eql 52 (ci 1)),
ia 54 (.pick 47 53 (.c (.bool false))),
ia 55 (.mov 54),
ic 55 true 56 (.load (some 8) 5),
ic 55 true 57 (.call 31 [56]),
ic 55 true 58 (.bin .eql 57 (ci 1)),
ia 59 (.pick 55 58 (.c (.bool false))),
ia 0 (.mov 59)]) [0])
(.ret)))))),
  [(9,(.pair (.int .i32) (.pair (.int .i64) (.pair (.int .i64) (.int .i64))))),(14,(.pair (.int .i32) (.pair (.int .i64) (.pair (.int .i64) (.int .i64)))))]⟩
def F_batonlaw18_awake (x:Unit):Option Bool:=some true
def A_batonlaw17_Few:AFn:=⟨1,[.tmp 2],
 .seq (.reg (nu [ia 1 (.box true 0),
ia 2 (.mov (.c (.bool false)))]) [1])
(.seq (.reg (nu [ia 3 (.fadr 0 1),
ia 4 (.fadr 2 3),
ia 5 (.load none 4),
ia 6 (.len false 5),
ia 7 (.bin .leq 6 (ci 200)),
ia 8 (.mov 7),
ic 8 true 9 (.fadr 6 1),
ic 8 true 10 (.load none 9),
ic 8 true 11 (.len true 10),
ic 8 true 12 (.bin .leq 11 (ci 200)),
ia 13 (.pick 8 12 (.c (.bool false))),
ia 2 (.mov 13)]) [2])
(.ret)),
  []⟩
def F_batonlaw17_Few (x:(Int)×(Int)×(List ((Int)×(Int)×(Int)×Int))×(Int)×(Int)×(Bool)×(List UInt8)×Int):Option (Bool):=
 (bif ((decide ((((x.2.2.1.length):Nat):Int)≤200))==true) then (some (decide (((x.2.2.2.2.2.2.1.length:Nat):Int)≤200))) else (some false))
def A_batonref10_Size:AFn:=⟨2,[.tmp 4],
 .seq (.reg (nu [ia 4 (.mov (.c (.bool false)))]) [0,1])
(.seq (.reg (nu [ia 5 (.mov 0),
ia 6 (.bin .geq 5 (ci 1)),
ia 7 (.mov 6),
ic 7 true 8 (.mov 0),
ic 7 true 9 (.bin .leq 8 (ci 60)),
ia 10 (.pick 7 9 (.c (.bool false))),
ia 11 (.mov 10),
ic 11 true 12 (.mov 1),
ic 11 true 13 (.bin .geq 12 (ci 1)),
ia 14 (.pick 11 13 (.c (.bool false))),
ia 15 (.mov 14),
ic 15 true 16 (.mov 1),
ic 15 true 17 (.bin .leq 16 (ci 132)),
ia 18 (.pick 15 17 (.c (.bool false))),
ia 4 (.mov 18)]) [4])
(.ret)),
  []⟩
def F_batonref10_Size (x:(Int)×Int):Option (Bool):=
 (bif ((decide (x.1≥1))==true) then (bif ((decide (x.1≤60))==true) then (bif ((decide (x.2≥1))==true) then (some (decide (x.2≤132))) else (some false)) else (some false)) else (some false))
def A_batonref08_Sign:AFn:=⟨1,[.tmp 2],
 .seq (.reg (nu [ia 2 (.mov (.c (.bool false)))]) [0])
(.seq (.reg (nu [ia 3 (.mov 0),
ia 4 (.bin .geq 3 (ci 0)),
ia 5 (.mov 4),
ic 5 true 6 (.mov 0),
ic 5 true 7 (.bin .leq 6 (ci 1114111)),
ia 8 (.pick 5 7 (.c (.bool false))),
ia 9 (.mov 8),
ic 9 true 10 (.mov 0),
ic 9 true 11 (.bin .lss 10 (ci 55296)),
ic 9 true 12 (.mov 11),
ic 12 false 13 (.mov 0),
ic 12 false 14 (.bin .gtr 13 (ci 57343)),
ic 9 true 15 (.pick 12 (.c (.bool true)) 14),
ia 16 (.pick 9 15 (.c (.bool false))),
ia 2 (.mov 16)]) [2])
(.ret)),
  []⟩
def F_batonref08_Sign (x:Int):Option (Bool):=
 (bif ((decide (x≥0))==true) then (bif ((decide (x≤1114111))==true) then (bif ((decide (x<55296))==false) then (some (decide (x>57343))) else (some true)) else (some false)) else (some false))
def A_batonref09_Right:AFn:=⟨1,[.tmp 2],
 .seq (.reg (nu [ia 1 (.box true 0),
ia 2 (.mov (.c (.bool false)))]) [1])
(.seq (.reg (nu [ia 5 (.fadr 1 1),
ia 6 (.load (some 3) 5),
ia 3 (.alloc true 3 [[(.int .i64 0),(.int .i64 0),(.int .i64 0)]]),
ib (.store 3 3 6)]) [1,3])
(.seq (.seq (.join [] [(.normal,[(1,.keep),(34,(.val false false ⟨false,.bool⟩))])] (.reg (nu [ia 7 (.fadr 0 3),
ia 8 (.load none 7),
ia 9 (.bin .lss 8 (ci 0)),
ia 10 (.mov 9),
ic 10 false 11 (.fadr 0 3),
ic 10 false 12 (.load none 11),
ic 10 false 13 (.bin .gtr 12 (ci 256)),
ia 14 (.pick 10 (.c (.bool true)) 13),
ia 15 (.mov 14),
ic 15 false 16 (.fadr 1 3),
ic 15 false 17 (.load none 16),
ic 15 false 18 (.bin .lss 17 (ci 0)),
ia 19 (.pick 15 (.c (.bool true)) 18),
ia 20 (.mov 19),
ic 20 false 21 (.fadr 1 3),
ic 20 false 22 (.load none 21),
ic 20 false 23 (.bin .gtr 22 (ci 256)),
ia 24 (.pick 20 (.c (.bool true)) 23),
ia 25 (.mov 24),
ic 25 false 26 (.fadr 2 3),
ic 25 false 27 (.load none 26),
ic 25 false 28 (.bin .lss 27 (ci 0)),
ia 29 (.pick 25 (.c (.bool true)) 28),
ia 30 (.mov 29),
ic 30 false 31 (.fadr 2 3),
ic 30 false 32 (.load none 31),
ic 30 false 33 (.bin .gtr 32 (ci 127)),
ia 34 (.pick 30 (.c (.bool true)) 33)]) [1,34]))
(.cond (.t 34)
 (.seq (.reg (nu [ia 2 (.mov (.c (.bool false)))]) [2])
(.ret))
 (.skip)))
(.seq (.reg (nu [ia 35 (.fadr 0 1),
ia 36 (.load none 35),
ia 37 (.cvI .i64 36),
ia 4 (.mov 37)]) [4])
(.seq (.reg (nu [ia 38 (.mov 4),
ia 39 (.bin .geq 38 (ci 32)),
ia 40 (.mov 39),
ic 40 true 41 (.mov 4),
ic 40 true 42 (.bin .leq 41 (ci 126)),
ia 43 (.pick 40 42 (.c (.bool false))),
ia 44 (.mov 43),
ic 44 false 45 (.mov 4),
ic 44 false 46 (.bin .geq 45 (ci 160)),
ia 47 (.pick 44 (.c (.bool true)) 46),
ia 48 (.mov 47),
ic 48 true 49 (.mov 4),
ic 48 true 50 (.call 139 [49]),
ia 51 (.pick 48 50 (.c (.bool false))),
ia 2 (.mov 51)]) [2])
(.ret))))),
  []⟩
def F_batonref09_Right (x:(Int)×(Int)×(Int)×Int):Option (Bool):=
 ((bif ((decide (x.2.1<0))==false) then (bif ((decide (x.2.1>256))==false) then (bif ((decide (x.2.2.1<0))==false) then (bif ((decide (x.2.2.1>256))==false) then (bif ((decide (x.2.2.2<0))==false) then (some (decide (x.2.2.2>127))) else (some true)) else (some true)) else (some true)) else (some true)) else (some true)).bind fun v6=>(bif v6 then (some false) else (bif ((decide ((IntKind.wrap .i64 (x.1))≥32))==true) then (bif ((decide ((IntKind.wrap .i64 (x.1))≤126))==false) then (bif ((decide ((IntKind.wrap .i64 (x.1))≥160))==true) then ((F_batonref08_Sign (IntKind.wrap .i64 (x.1))).bind fun r7=>(some r7)) else (some false)) else ((F_batonref08_Sign (IntKind.wrap .i64 (x.1))).bind fun r8=>(some r8))) else (bif ((decide ((IntKind.wrap .i64 (x.1))≥160))==true) then ((F_batonref08_Sign (IntKind.wrap .i64 (x.1))).bind fun r9=>(some r9)) else (some false)))))
def A_batonref10_Right:AFn:=⟨1,[.tmp 2],
 .seq (.reg (nu [ia 1 (.box true 0),
ia 2 (.mov (.c (.bool false)))]) [1])
(.seq (.seq (.join [] [(.normal,[(1,.keep),(20,(.val false false ⟨false,.bool⟩))])] (.reg (nu [ia 4 (.fadr 0 1),
ia 5 (.load none 4),
ia 6 (.fadr 1 1),
ia 7 (.load none 6),
ia 8 (.call 33 [5,7]),
ia 9 (.un .not 8),
ia 10 (.mov 9),
ic 10 false 11 (.fadr 2 1),
ic 10 false 12 (.load none 11),
ic 10 false 13 (.len false 12),
ic 10 false 14 (.fadr 0 1),
ic 10 false 15 (.load none 14),
ic 10 false 16 (.fadr 1 1),
ic 10 false 17 (.load none 16),
ic 10 false 18 (.bin .mul 15 17),
ic 10 false 19 (.bin .neq 13 18),
ia 20 (.pick 10 (.c (.bool true)) 19)]) [1,20]))
(.cond (.t 20)
 (.seq (.reg (nu [ia 2 (.mov (.c (.bool false)))]) [2])
(.ret))
 (.skip)))
(.seq (.seq (.reg (nu [ia 3 (.mov (ci 0))]) [1,3])
(.seq (.block 0 (.loop [(1,.keep),(3,(.val false false ⟨false,(.int .i64)⟩))] [(.ret,[(2,(.val false false ⟨false,.bool⟩))]),(.exit 0,[(1,.keep),(3,(.val false false ⟨false,(.int .i64)⟩)),(25,(.val false false ⟨false,.bool⟩))])] (.seq (.seq (.reg (nu [ia 21 (.mov 3),
ia 22 (.fadr 2 1),
ia 23 (.load none 22),
ia 24 (.len false 23),
ia 25 (.bin .lss 21 24)]) [1,3,25])
(.cond (.t 25)
 (.skip)
 (.exit 0)))
(.seq (.block 1 (.seq (.reg (nu [ia 28 (.fadr 2 1),
ia 29 (.load none 28),
ia 30 (.mov 3),
ia 31 (.iadr 4 29 30),
ia 32 (.load (some 4) 31),
ia 33 (.call 77 [32]),
ia 34 (.un .not 33)]) [1,3,34])
(.cond (.t 34)
 (.seq (.reg (nu [ia 2 (.mov (.c (.bool false)))]) [2])
(.ret))
 (.skip))))
(.reg (nu [ia 26 (.mov 3),
ia 27 (.bin .add 26 (ci 1)),
ia 3 (.mov 27)]) [1,3])))))
(.reg (nu []) [])))
(.seq (.reg (nu [ia 2 (.mov (.c (.bool true)))]) [2])
(.ret)))),
  []⟩
def F_batonref10_Right (x:(Int)×(Int)×List ((Int)×(Int)×(Int)×Int)):Option (Bool):=
 (((F_batonref10_Size (x.1,x.2.1)).bind fun r40=>(bif ((!r40)==false) then (some ((((x.2.2.length):Nat):Int) != (IntKind.wrap .i64 (x.1*x.2.1)))) else (some true))).bind fun v41=>(bif v41 then (some false) else ((iterL (S:=Int) (X:=(Bool)⊕((Int)×Bool)) (fun s42=>(bif (decide (s42<(((x.2.2.length):Nat):Int))) then (bif decide (0≤s42) then ((x.2.2[(s42).toNat]?).bind fun e43=>((F_batonref09_Right e43).bind fun r44=>(bif (!r44) then (some (Sum.inr (Sum.inl false))) else (some (Sum.inl (IntKind.wrap .i64 (s42+1))))))) else none) else (some (Sum.inr (Sum.inr (s42,(decide (s42<(((x.2.2.length):Nat):Int))))))))) 0).bind fun w46=>match w46 with|Sum.inl v45=>(some v45)|Sum.inr w46=>(fun v47=>(some true)) w46)))
def A_batonref10_There:AFn:=⟨3,[.tmp 6],
 .seq (.reg (nu [ia 3 (.box true 0),
ia 6 (.mov (.c (.bool false)))]) [1,2,3])
(.seq (.reg (nu [ia 7 (.mov 1),
ia 8 (.bin .geq 7 (ci 0)),
ia 9 (.mov 8),
ic 9 true 10 (.mov 1),
ic 9 true 11 (.fadr 0 3),
ic 9 true 12 (.load none 11),
ic 9 true 13 (.bin .lss 10 12),
ia 14 (.pick 9 13 (.c (.bool false))),
ia 15 (.mov 14),
ic 15 true 16 (.mov 2),
ic 15 true 17 (.bin .geq 16 (ci 0)),
ia 18 (.pick 15 17 (.c (.bool false))),
ia 19 (.mov 18),
ic 19 true 20 (.mov 2),
ic 19 true 21 (.fadr 1 3),
ic 19 true 22 (.load none 21),
ic 19 true 23 (.bin .lss 20 22),
ia 24 (.pick 19 23 (.c (.bool false))),
ia 6 (.mov 24)]) [6])
(.ret)),
  []⟩
def F_batonref10_There (x:((Int)×(Int)×List ((Int)×(Int)×(Int)×Int))×(Int)×Int):Option (Bool):=
 (bif ((decide (x.2.1≥0))==true) then (bif ((decide (x.2.1<x.1.1))==true) then (bif ((decide (x.2.2≥0))==true) then (some (decide (x.2.2<x.1.2.1))) else (some false)) else (some false)) else (some false))
def A_batonref08_Bytes:AFn:=⟨1,[.tmp 2],
 .seq (.reg (nu [ia 2 (.mov (.c .nils))]) [0])
(.seq (.join [] [(.normal,[(0,(.val false false ⟨false,(.int .i64)⟩))])] (.seq (.reg (nu [ia 3 (.mov 0),
ia 4 (.call 139 [3]),
ia 5 (.un .not 4)]) [0,5])
(.cond (.t 5)
 (.reg (nu [ia 0 (.mov (ci 65533))]) [0])
 (.skip))))
(.seq (.block 0 (.seq (.reg (nu [ia 7 (.mov 0),
ia 8 (.bin .lss 7 (ci 128)),
ia 6 (.mov 8)]) [0,6])
(.cond (.t 6)
 (.seq (.reg (nu [ia 9 (.mov 0),
ia 10 (.cvI .u8 9),
ia 11 (.bsl false 1 [(.int .u8 0)] 1 [(0,10)]),
ia 2 (.mov 11)]) [2])
(.ret))
 (.seq (.reg (nu [ia 13 (.mov 0),
ia 14 (.bin .lss 13 (ci 2048)),
ia 12 (.mov 14)]) [0,12])
(.cond (.t 12)
 (.seq (.reg (nu [ia 15 (.mov 0),
ia 16 (.bin .quo 15 (ci 64)),
ia 17 (.bin .add (ci 192) 16),
ia 18 (.cvI .u8 17),
ia 19 (.mov 0),
ia 20 (.bin .rem 19 (ci 64)),
ia 21 (.bin .add (ci 128) 20),
ia 22 (.cvI .u8 21),
ia 23 (.bsl false 1 [(.int .u8 0)] 2 [(0,18),(1,22)]),
ia 2 (.mov 23)]) [2])
(.ret))
 (.seq (.reg (nu [ia 25 (.mov 0),
ia 26 (.bin .lss 25 (ci 65536)),
ia 24 (.mov 26)]) [0,24])
(.cond (.t 24)
 (.seq (.reg (nu [ia 27 (.mov 0),
ia 28 (.bin .quo 27 (ci 4096)),
ia 29 (.bin .add (ci 224) 28),
ia 30 (.cvI .u8 29),
ia 31 (.mov 0),
ia 32 (.bin .quo 31 (ci 64)),
ia 33 (.bin .rem 32 (ci 64)),
ia 34 (.bin .add (ci 128) 33),
ia 35 (.cvI .u8 34),
ia 36 (.mov 0),
ia 37 (.bin .rem 36 (ci 64)),
ia 38 (.bin .add (ci 128) 37),
ia 39 (.cvI .u8 38),
ia 40 (.bsl false 1 [(.int .u8 0)] 3 [(0,30),(1,35),(2,39)]),
ia 2 (.mov 40)]) [2])
(.ret))
 (.skip))))))))
(.seq (.reg (nu [ia 41 (.mov 0),
ia 42 (.bin .quo 41 (ci 262144)),
ia 43 (.bin .add (ci 240) 42),
ia 44 (.cvI .u8 43),
ia 45 (.mov 0),
ia 46 (.bin .quo 45 (ci 4096)),
ia 47 (.bin .rem 46 (ci 64)),
ia 48 (.bin .add (ci 128) 47),
ia 49 (.cvI .u8 48),
ia 50 (.mov 0),
ia 51 (.bin .quo 50 (ci 64)),
ia 52 (.bin .rem 51 (ci 64)),
ia 53 (.bin .add (ci 128) 52),
ia 54 (.cvI .u8 53),
ia 55 (.mov 0),
ia 56 (.bin .rem 55 (ci 64)),
ia 57 (.bin .add (ci 128) 56),
ia 58 (.cvI .u8 57),
ia 59 (.bsl false 1 [(.int .u8 0)] 4 [(0,44),(1,49),(2,54),(3,58)]),
ia 2 (.mov 59)]) [2])
(.ret)))),
  [(11,(.int .u8)),(23,(.int .u8)),(40,(.int .u8)),(59,(.int .u8))]⟩
def F_batonref08_Bytes (x:Int):Option (List (Int)):=
 (((F_batonref08_Sign x).bind fun r7=>(bif (!r7) then (some 65533) else (some x))).bind fun v8=>(bif (decide (v8<128)) then (some ([(IntKind.wrap .u8 (v8))]:List (Int))) else (bif (decide (v8<2048)) then (some ([(IntKind.wrap .u8 ((IntKind.wrap .i64 (192+(IntKind.wrap .i64 (Int.tdiv v8 64)))))),(IntKind.wrap .u8 ((IntKind.wrap .i64 (128+(Int.tmod v8 64)))))]:List (Int))) else (bif (decide (v8<65536)) then (some ([(IntKind.wrap .u8 ((IntKind.wrap .i64 (224+(IntKind.wrap .i64 (Int.tdiv v8 4096)))))),(IntKind.wrap .u8 ((IntKind.wrap .i64 (128+(Int.tmod (IntKind.wrap .i64 (Int.tdiv v8 64)) 64))))),(IntKind.wrap .u8 ((IntKind.wrap .i64 (128+(Int.tmod v8 64)))))]:List (Int))) else (some ([(IntKind.wrap .u8 ((IntKind.wrap .i64 (240+(IntKind.wrap .i64 (Int.tdiv v8 262144)))))),(IntKind.wrap .u8 ((IntKind.wrap .i64 (128+(Int.tmod (IntKind.wrap .i64 (Int.tdiv v8 4096)) 64))))),(IntKind.wrap .u8 ((IntKind.wrap .i64 (128+(Int.tmod (IntKind.wrap .i64 (Int.tdiv v8 64)) 64))))),(IntKind.wrap .u8 ((IntKind.wrap .i64 (128+(Int.tmod v8 64)))))]:List (Int)))))))
def A_batonref08_same:AFn:=⟨2,[.tmp 4],
 .seq (.reg (nu [ia 4 (.mov (.c (.bool false)))]) [0,1])
(.seq (.seq (.reg (nu [ia 6 (.mov 0),
ia 7 (.len false 6),
ia 8 (.mov 1),
ia 9 (.len false 8),
ia 10 (.bin .neq 7 9)]) [0,1,10])
(.cond (.t 10)
 (.seq (.reg (nu [ia 4 (.mov (.c (.bool false)))]) [4])
(.ret))
 (.skip)))
(.seq (.seq (.reg (nu [ia 5 (.mov (ci 0))]) [0,1,5])
(.block 0 (.loop [(0,.keep),(1,.keep),(5,(.val false false ⟨false,(.int .i64)⟩))] [(.ret,[(4,(.val false false ⟨false,.bool⟩))]),(.exit 0,[(0,.keep),(1,.keep),(5,(.val false false ⟨false,(.int .i64)⟩)),(14,(.val false false ⟨false,.bool⟩))])] (.seq (.seq (.reg (nu [ia 11 (.mov 5),
ia 12 (.mov 0),
ia 13 (.len false 12),
ia 14 (.bin .lss 11 13)]) [0,1,5,14])
(.cond (.t 14)
 (.skip)
 (.exit 0)))
(.seq (.block 1 (.seq (.drw [⟨0,none,(some 17),.mov (.t 0)⟩,
 ⟨1,none,(some 18),.mov (.t 5)⟩,
 ⟨2,none,(some 19),.iadr 1 (.t 17) (.t 18)⟩,
 ⟨3,none,(some 20),.load none (.t 19)⟩,
 ⟨4,none,(some 21),.mov (.t 1)⟩,
 ⟨5,none,(some 22),.mov (.t 5)⟩,
 ⟨6,none,(some 23),.iadr 1 (.t 21) (.t 22)⟩,
 ⟨7,none,(some 24),.load none (.t 23)⟩,
 ⟨8,none,(some 25),.bin .neq (.t 20) (.t 24)⟩] [] [0,1,5,25])
(.cond (.t 25)
 (.seq (.reg (nu [ia 4 (.mov (.c (.bool false)))]) [4])
(.ret))
 (.skip))))
(.reg (nu [ia 15 (.mov 5),
ia 16 (.bin .add 15 (ci 1)),
ia 5 (.mov 16)]) [0,1,5]))))))
(.seq (.reg (nu [ia 4 (.mov (.c (.bool true)))]) [4])
(.ret)))),
  []⟩
def F_batonref08_same (x:(List (Int))×List (Int)):Option (Bool):=
 (bif ((((x.1.length):Nat):Int) != (((x.2.length):Nat):Int)) then (some false) else ((iterL (S:=Int) (X:=(Bool)⊕((Int)×Bool)) (fun s26=>(bif (decide (s26<(((x.1.length):Nat):Int))) then (bif decide (0≤s26) then ((x.1[(s26).toNat]?).bind fun e27=>(bif decide (0≤s26) then ((x.2[(s26).toNat]?).bind fun e28=>(bif (e27 != e28) then (some (Sum.inr (Sum.inl false))) else (some (Sum.inl (IntKind.wrap .i64 (s26+1)))))) else none)) else none) else (some (Sum.inr (Sum.inr (s26,(decide (s26<(((x.1.length):Nat):Int))))))))) 0).bind fun w30=>match w30 with|Sum.inl v29=>(some v29)|Sum.inr w30=>(fun v31=>(some true)) w30))
def A_batonref08_Whole:AFn:=⟨1,[.tmp 2],
 .seq (.reg (nu [ia 2 (.mov (ci 0))]) [0])
(.seq (.seq (.join [] [(.normal,[(0,.keep),(12,(.val false false ⟨false,.bool⟩))])] (.reg (nu [ia 5 (.mov 0),
ia 6 (.len false 5),
ia 7 (.bin .eql 6 (ci 0)),
ia 8 (.mov 7),
ic 8 false 9 (.mov 0),
ic 8 false 10 (.len false 9),
ic 8 false 11 (.bin .gtr 10 (ci 4)),
ia 12 (.pick 8 (.c (.bool true)) 11)]) [0,12]))
(.cond (.t 12)
 (.seq (.reg (nu [ia 2 (.mov (.c (.int .i64 (-1))))]) [2])
(.ret))
 (.skip)))
(.seq (.reg (nu [ia 13 (.mov 0),
ia 14 (.iadr 1 13 (ci 0)),
ia 15 (.load none 14),
ia 16 (.cvI .i64 15),
ia 3 (.mov 16)]) [0,3])
(.seq (.join [] [(.normal,[(0,.keep),(3,(.val false false ⟨false,(.int .i64)⟩))])] (.seq (.reg (nu [ia 17 (.mov 0),
ia 18 (.len false 17),
ia 19 (.bin .gtr 18 (ci 1))]) [0,3,19])
(.cond (.t 19)
 (.reg (nu [ia 20 (.mov 3),
ia 21 (.bsl false 1 [(.int .i64 0)] 5 [(0,(ci 0)),(1,(ci 0)),(2,(ci 192)),(3,(ci 224)),(4,(ci 240))]),
ia 22 (.mov 0),
ia 23 (.len false 22),
ia 24 (.iadr 1 21 23),
ia 25 (.load none 24),
ia 26 (.bin .sub 20 25),
ia 3 (.mov 26)]) [0,3])
 (.skip))))
(.seq (.seq (.reg (nu [ia 4 (.mov (ci 1))]) [0,3,4])
(.block 0 (.loop [(0,.keep),(3,(.val false false ⟨false,(.int .i64)⟩)),(4,(.val false false ⟨false,(.int .i64)⟩))] [(.exit 0,[(0,.keep),(3,(.val false false ⟨false,(.int .i64)⟩)),(4,(.val false false ⟨false,(.int .i64)⟩)),(30,(.val false false ⟨false,.bool⟩))])] (.seq (.seq (.reg (nu [ia 27 (.mov 4),
ia 28 (.mov 0),
ia 29 (.len false 28),
ia 30 (.bin .lss 27 29)]) [0,3,4,30])
(.cond (.t 30)
 (.skip)
 (.exit 0)))
(.seq (.block 1 (.reg (nu [ia 33 (.mov 3),
ia 34 (.bin .mul 33 (ci 64)),
ia 35 (.mov 0),
ia 36 (.mov 4),
ia 37 (.iadr 1 35 36),
ia 38 (.load none 37),
ia 39 (.cvI .i64 38),
ia 40 (.bin .add 34 39),
ia 41 (.bin .sub 40 (ci 128)),
ia 3 (.mov 41)]) [0,3,4]))
(.reg (nu [ia 31 (.mov 4),
ia 32 (.bin .add 31 (ci 1)),
ia 4 (.mov 32)]) [0,3,4]))))))
(.seq (.seq (.join [] [(.normal,[(3,.keep),(51,(.val false false ⟨false,.bool⟩))])] (.reg (nu [ia 42 (.mov 3),
ia 43 (.call 139 [42]),
ia 44 (.un .not 43),
ia 45 (.mov 44),
ic 45 false 46 (.mov 3),
ic 45 false 47 (.call 174 [46]),
ic 45 false 48 (.mov 0),
ic 45 false 49 (.call 173 [47,48]),
ic 45 false 50 (.un .not 49),
ia 51 (.pick 45 (.c (.bool true)) 50)]) [3,51]))
(.cond (.t 51)
 (.seq (.reg (nu [ia 2 (.mov (.c (.int .i64 (-1))))]) [2])
(.ret))
 (.skip)))
(.seq (.reg (nu [ia 52 (.mov 3),
ia 2 (.mov 52)]) [2])
(.ret))))))),
  [(21,(.int .i64))]⟩
def F_batonref08_Whole (x:List (Int)):Option (Int):=
 ((bif (((((x.length):Nat):Int)==0)==false) then (some (decide ((((x.length):Nat):Int)>4))) else (some true)).bind fun v40=>(bif v40 then (some (-1)) else ((x[0]?).bind fun e41=>((bif (decide ((((x.length):Nat):Int)>1)) then (bif decide (0≤(((x.length):Nat):Int)) then ((([0,0,192,224,240]:List (Int))[((((x.length):Nat):Int)).toNat]?).bind fun e42=>(some (IntKind.wrap .i64 ((IntKind.wrap .i64 (e41))-e42)))) else none) else (some (IntKind.wrap .i64 (e41)))).bind fun v43=>((iterL (S:=(Int)×Int) (X:=(Int)×(Int)×Bool) (fun s44=>(bif (decide (s44.2<(((x.length):Nat):Int))) then (bif decide (0≤s44.2) then ((x[(s44.2).toNat]?).bind fun e45=>(some (Sum.inl ((IntKind.wrap .i64 ((IntKind.wrap .i64 ((IntKind.wrap .i64 (s44.1*64))+(IntKind.wrap .i64 (e45))))-128)),(IntKind.wrap .i64 (s44.2+1)))))) else none) else (some (Sum.inr (s44.1,(s44.2,(decide (s44.2<(((x.length):Nat):Int))))))))) (v43,1)).bind fun v46=>(((F_batonref08_Sign v46.1).bind fun r47=>(bif ((!r47)==false) then ((F_batonref08_Bytes v46.1).bind fun r48=>((F_batonref08_same (r48,x)).bind fun r49=>(some (!r49)))) else (some true))).bind fun v50=>(bif v50 then (some (-1)) else (some v46.1))))))))
def A_batonref08_Valid:AFn:=⟨1,[.tmp 2],
 .seq (.reg (nu [ia 2 (.mov (.c (.bool false)))]) [0])
(.seq (.reg (nu [ia 3 (.mov (ci 0))]) [0,3])
(.seq (.block 0 (.loop [(0,.keep),(3,(.val false false ⟨false,(.int .i64)⟩))] [(.ret,[(2,(.val false false ⟨false,.bool⟩))]),(.exit 0,[(0,.keep),(3,(.val false false ⟨false,(.int .i64)⟩)),(8,(.val false false ⟨false,.bool⟩))])] (.seq (.seq (.reg (nu [ia 5 (.mov 3),
ia 6 (.mov 0),
ia 7 (.len false 6),
ia 8 (.bin .lss 5 7)]) [0,3,8])
(.cond (.t 8)
 (.skip)
 (.exit 0)))
(.block 1 (.seq (.reg (nu [ia 4 (.mov (ci 1))]) [0,3,4])
(.seq (.block 2 (.loop [(0,.keep),(3,.keep),(4,(.val false false ⟨false,(.int .i64)⟩))] [(.exit 2,[(0,.keep),(3,.keep),(4,(.val false false ⟨false,(.int .i64)⟩)),(28,(.val false false ⟨false,.bool⟩))])] (.seq (.seq (.join [] [(.normal,[(0,.keep),(3,.keep),(4,.keep),(28,(.val false false ⟨false,.bool⟩))])] (.reg (nu [ia 9 (.mov 4),
ia 10 (.bin .leq 9 (ci 4)),
ia 11 (.mov 10),
ic 11 true 12 (.mov 3),
ic 11 true 13 (.mov 4),
ic 11 true 14 (.bin .add 12 13),
ic 11 true 15 (.mov 0),
ic 11 true 16 (.len false 15),
ic 11 true 17 (.bin .leq 14 16),
ia 18 (.pick 11 17 (.c (.bool false))),
ia 19 (.mov 18),
ic 19 true 20 (.mov 0),
ic 19 true 21 (.mov 3),
ic 19 true 22 (.mov 3),
ic 19 true 23 (.mov 4),
ic 19 true 24 (.bin .add 22 23),
ic 19 true 25 (.slL 1 20 (some 21) (some 24) none),
ic 19 true 26 (.call 132 [25]),
ic 19 true 27 (.bin .lss 26 (ci 0)),
ia 28 (.pick 19 27 (.c (.bool false)))]) [0,3,4,28]))
(.cond (.t 28)
 (.skip)
 (.exit 2)))
(.block 3 (.reg (nu [ia 29 (.mov 4),
ia 30 (.bin .add 29 (ci 1)),
ia 4 (.mov 30)]) [0,3,4])))))
(.seq (.seq (.join [] [(.normal,[(0,.keep),(3,.keep),(4,.keep),(40,(.val false false ⟨false,.bool⟩))])] (.reg (nu [ia 31 (.mov 4),
ia 32 (.bin .gtr 31 (ci 4)),
ia 33 (.mov 32),
ic 33 false 34 (.mov 3),
ic 33 false 35 (.mov 4),
ic 33 false 36 (.bin .add 34 35),
ic 33 false 37 (.mov 0),
ic 33 false 38 (.len false 37),
ic 33 false 39 (.bin .gtr 36 38),
ia 40 (.pick 33 (.c (.bool true)) 39)]) [0,3,4,40]))
(.cond (.t 40)
 (.seq (.reg (nu [ia 2 (.mov (.c (.bool false)))]) [2])
(.ret))
 (.skip)))
(.reg (nu [ia 41 (.mov 3),
ia 42 (.mov 4),
ia 43 (.bin .add 41 42),
ia 3 (.mov 43)]) [0,3]))))))))
(.seq (.reg (nu [ia 2 (.mov (.c (.bool true)))]) [2])
(.ret)))),
  []⟩
def F_batonref08_Valid (x:List (Int)):Option (Bool):=
 ((iterL (S:=Int) (X:=(Bool)⊕((Int)×Bool)) (fun s96=>(bif (decide (s96<(((x.length):Nat):Int))) then ((iterL (S:=Int) (X:=(Int)×Bool) (fun s97=>((bif ((decide (s97≤4))==true) then (bif ((decide ((IntKind.wrap .i64 (s96+s97))≤(((x.length):Nat):Int)))==true) then (bif decide (0≤s96) then (bif decide (0≤(IntKind.wrap .i64 (s96+s97))) then (bif decide ((s96).toNat≤((IntKind.wrap .i64 (s96+s97))).toNat∧((IntKind.wrap .i64 (s96+s97))).toNat≤x.length) then ((F_batonref08_Whole ((x.drop (s96).toNat).take (((IntKind.wrap .i64 (s96+s97))).toNat-(s96).toNat))).bind fun r98=>(some (decide (r98<0)))) else none) else none) else none) else (some false)) else (some false)).bind fun v99=>(bif v99 then (some (Sum.inl (IntKind.wrap .i64 (s97+1)))) else (some (Sum.inr (s97,v99)))))) 1).bind fun v100=>((bif ((decide (v100.1>4))==false) then (some (decide ((IntKind.wrap .i64 (s96+v100.1))>(((x.length):Nat):Int)))) else (some true)).bind fun v101=>(bif v101 then (some (Sum.inr (Sum.inl false))) else (some (Sum.inl (IntKind.wrap .i64 (s96+v100.1))))))) else (some (Sum.inr (Sum.inr (s96,(decide (s96<(((x.length):Nat):Int))))))))) 0).bind fun w103=>match w103 with|Sum.inl v102=>(some v102)|Sum.inr w103=>(fun v104=>(some true)) w103)
def A_batonref17_Right:AFn:=⟨1,[.tmp 2],
 .seq (.reg (nu [ia 1 (.box true 0),
ia 2 (.mov (.c (.bool false)))]) [1])
(.seq (.seq (.join [] [(.normal,[(1,.keep),(33,(.val false false ⟨false,.bool⟩))])] (.reg (nu [ia 4 (.fadr 0 1),
ia 5 (.load (some 3) 4),
ia 6 (.call 68 [5]),
ia 7 (.un .not 6),
ia 8 (.mov 7),
ic 8 false 9 (.fadr 0 1),
ic 8 false 10 (.load (some 3) 9),
ic 8 false 11 (.fadr 3 1),
ic 8 false 12 (.load none 11),
ic 8 false 13 (.fadr 4 1),
ic 8 false 14 (.load none 13),
ic 8 false 15 (.call 69 [10,12,14]),
ic 8 false 16 (.un .not 15),
ia 17 (.pick 8 (.c (.bool true)) 16),
ia 18 (.mov 17),
ic 18 false 19 (.fadr 7 1),
ic 18 false 20 (.load none 19),
ic 18 false 21 (.bin .lss 20 (ci 0)),
ia 22 (.pick 18 (.c (.bool true)) 21),
ia 23 (.mov 22),
ic 23 false 24 (.fadr 7 1),
ic 23 false 25 (.load none 24),
ic 23 false 26 (.bin .gtr 25 (ci 1073741824)),
ia 27 (.pick 23 (.c (.bool true)) 26),
ia 28 (.mov 27),
ic 28 false 29 (.fadr 6 1),
ic 28 false 30 (.load none 29),
ic 28 false 31 (.len true 30),
ic 28 false 32 (.bin .gtr 31 (ci 64)),
ia 33 (.pick 28 (.c (.bool true)) 32)]) [1,33]))
(.cond (.t 33)
 (.seq (.reg (nu [ia 2 (.mov (.c (.bool false)))]) [2])
(.ret))
 (.skip)))
(.seq (.seq (.reg (nu [ia 3 (.mov (ci 0))]) [1,3])
(.block 0 (.loop [(1,.keep),(3,(.val false false ⟨false,(.int .i64)⟩))] [(.ret,[(2,(.val false false ⟨false,.bool⟩))]),(.exit 0,[(1,.keep),(3,(.val false false ⟨false,(.int .i64)⟩)),(38,(.val false false ⟨false,.bool⟩))])] (.seq (.seq (.reg (nu [ia 34 (.mov 3),
ia 35 (.fadr 6 1),
ia 36 (.load none 35),
ia 37 (.len true 36),
ia 38 (.bin .lss 34 37)]) [1,3,38])
(.cond (.t 38)
 (.skip)
 (.exit 0)))
(.seq (.block 1 (.seq (.join [] [(.normal,[(1,.keep),(3,.keep),(52,(.val false false ⟨false,.bool⟩))])] (.reg (nu [ia 41 (.fadr 6 1),
ia 42 (.load none 41),
ia 43 (.mov 3),
ia 44 (.idxS 42 43),
ia 45 (.bin .lss 44 (.c (.int .u8 32))),
ia 46 (.mov 45),
ic 46 false 47 (.fadr 6 1),
ic 46 false 48 (.load none 47),
ic 46 false 49 (.mov 3),
ic 46 false 50 (.idxS 48 49),
ic 46 false 51 (.bin .eql 50 (.c (.int .u8 127))),
ia 52 (.pick 46 (.c (.bool true)) 51)]) [1,3,52]))
(.cond (.t 52)
 (.seq (.reg (nu [ia 2 (.mov (.c (.bool false)))]) [2])
(.ret))
 (.skip))))
(.reg (nu [ia 39 (.mov 3),
ia 40 (.bin .add 39 (ci 1)),
ia 3 (.mov 40)]) [1,3]))))))
(.seq (.reg (nu [ia 53 (.fadr 6 1),
ia 54 (.load none 53),
ia 55 (.cvSB false 54),
ia 56 (.call 70 [55]),
ia 2 (.mov 56)]) [2])
(.ret)))),
  []⟩
def F_batonref17_Right (x:(Int)×(Int)×(List ((Int)×(Int)×(Int)×Int))×(Int)×(Int)×(Bool)×(List UInt8)×Int):Option (Bool):=
 (((F_batonref10_Right (x.1,(x.2.1,x.2.2.1))).bind fun r62=>(bif ((!r62)==false) then ((F_batonref10_There ((x.1,(x.2.1,x.2.2.1)),(x.2.2.2.1,x.2.2.2.2.1))).bind fun r63=>(bif ((!r63)==false) then (bif ((decide (x.2.2.2.2.2.2.2<0))==false) then (bif ((decide (x.2.2.2.2.2.2.2>1073741824))==false) then (some (decide (((x.2.2.2.2.2.2.1.length:Nat):Int)>64))) else (some true)) else (some true)) else (some true))) else (some true))).bind fun v64=>(bif v64 then (some false) else ((iterL (S:=Int) (X:=(Bool)⊕((Int)×Bool)) (fun s65=>(bif (decide (s65<((x.2.2.2.2.2.2.1.length:Nat):Int))) then ((bif decide (0≤s65) then ((x.2.2.2.2.2.2.1[(s65).toNat]?).bind fun c66=>(bif ((decide (((c66.toNat:Nat):Int)<32))==false) then (bif decide (0≤s65) then ((x.2.2.2.2.2.2.1[(s65).toNat]?).bind fun c67=>(some (((c67.toNat:Nat):Int)==127))) else none) else (some true))) else none).bind fun v68=>(bif v68 then (some (Sum.inr (Sum.inl false))) else (some (Sum.inl (IntKind.wrap .i64 (s65+1)))))) else (some (Sum.inr (Sum.inr (s65,(decide (s65<((x.2.2.2.2.2.2.1.length:Nat):Int))))))))) 0).bind fun w70=>match w70 with|Sum.inl v69=>(some v69)|Sum.inr w70=>(fun v71=>(bif decide (x.2.2.2.2.2.2.1.length≤most) then ((F_batonref08_Valid (x.2.2.2.2.2.2.1.map fun c=>((c.toNat:Nat):Int))).bind fun r72=>(some r72)) else none)) w70)))
def A_delta_Delta_image:AFn:=⟨2,[.cell 4 (some 8)],
 .seq (.reg (nu [ia 2 (.box true 0),
ia 3 (.box true 1),
ia 4 (.alloc true 8 [[(.int .i64 0),(.int .i64 0),.nils,(.int .i64 0),(.int .i64 0),(.bool false),(.str []),(.int .i64 0)]])]) [2,3,4])
(.seq (.reg (nu [ia 5 (.load (some 3) 3),
ia 6 (.fadr 3 2),
ia 7 (.load none 6),
ia 8 (.fadr 4 2),
ia 9 (.load none 8),
ia 10 (.fadr 5 2),
ia 11 (.load none 10),
ia 12 (.fadr 6 2),
ia 13 (.load none 12),
ia 14 (.fadr 7 2),
ia 15 (.load none 14),
ia 16 (.build [(.int .i64 0),(.int .i64 0),.nils,(.int .i64 0),(.int .i64 0),(.bool false),(.str []),(.int .i64 0)] [(0,3,5),(3,1,7),(4,1,9),(5,1,11),(6,1,13),(7,1,15)]),
ib (.store 8 4 16)]) [4])
(.ret)),
  []⟩
def O_delta_Delta_image (x:((Int)×(Int)×(List ((Int)×(Int)×List ((Int)×(Int)×(Int)×Int)))×(Int)×(Int)×(Bool)×(List UInt8)×Int)×(Int)×(Int)×List ((Int)×(Int)×(Int)×Int)):Option ((Int)×(Int)×(List ((Int)×(Int)×(Int)×Int))×(Int)×(Int)×(Bool)×(List UInt8)×Int):=
 (some (x.2.1,(x.2.2.1,(x.2.2.2,x.1.2.2.2))))
def A_delta_Delta_within_1:AFn:=⟨1,[.tmp 2],
 .seq (.reg (nu [ia 1 (.box true 0),
ia 2 (.mov (.c (.bool false)))]) [1])
(.seq (.reg (nu [ia 3 (.load (some 4) 1),
ia 4 (.call 137 [3]),
ia 5 (.un .not 4),
ia 2 (.mov 5)]) [2])
(.ret)),
  []⟩
def F_delta_Delta_within_1 (x:(Int)×(Int)×(Int)×Int):Option (Bool):=
 ((F_cell_Right x).bind fun r1=>(some (!r1)))
def I_slices_IndexFunc_api_Cell_api_Cell:AFn:=⟨2,[.tmp 4],
 .seq (.reg (nu [ia 4 (.mov (ci 0))]) [0,1])
(.seq (.seq (.reg (nu [ia 6 (.mov 0),
ia 7 (.len false 6),
ia 8 (.mov (ci 0))]) [0,1,7,8])
(.block 0 (.loop [(0,.keep),(1,.keep),(7,.keep),(8,(.val false false ⟨false,(.int .i64)⟩))] [(.ret,[(4,(.val false false ⟨false,(.int .i64)⟩))]),(.exit 0,[(0,.keep),(1,.keep),(7,.keep),(8,(.val false false ⟨false,(.int .i64)⟩)),(9,(.val false false ⟨false,.bool⟩))])] (.seq (.reg (nu [ia 9 (.bin .lss 8 7)]) [0,1,7,8,9])
(.seq (.cond (.t 9)
 (.skip)
 (.exit 0))
(.seq (.block 1 (.seq (.reg (nu [ia 10 (.mov 8),
ia 5 (.mov 10)]) [0,1,5,7,8])
(.seq (.reg (nu [ia 11 (.mov 1),
ia 12 (.mov 0),
ia 13 (.mov 5),
ia 14 (.iadr 4 12 13),
ia 15 (.load (some 4) 14),
ia 16 (.callv 11 [15])]) [0,1,5,7,8,16])
(.cond (.t 16)
 (.seq (.reg (nu [ia 17 (.mov 5),
ia 4 (.mov 17)]) [4])
(.ret))
 (.skip)))))
(.reg (nu [ia 18 (.bin .add 8 (ci 1)),
ia 8 (.mov 18)]) [0,1,7,8])))))))
(.seq (.reg (nu [ia 4 (.mov (.c (.int .i64 (-1))))]) [4])
(.ret))),
  []⟩
def I_slices_ContainsFunc_api_Cell_api_Cell:AFn:=⟨2,[.tmp 4],
 .seq (.reg (nu [ia 4 (.mov (.c (.bool false)))]) [0,1])
(.seq (.reg (nu [ia 5 (.mov 0),
ia 6 (.mov 1),
ia 7 (.call 176 [5,6]),
ia 8 (.bin .geq 7 (ci 0)),
ia 4 (.mov 8)]) [4])
(.ret)),
  []⟩
def A_delta_Delta_within:AFn:=⟨2,[.tmp 4],
 .seq (.reg (nu [ia 2 (.box true 0),
ia 3 (.box true 1),
ia 4 (.mov (.c (.bool false)))]) [2,3])
(.seq (.seq (.join [] [(.normal,[(3,.keep),(44,(.val false false ⟨false,.bool⟩))])] (.reg (nu [ia 5 (.fadr 0 3),
ia 6 (.load none 5),
ia 7 (.bin .lss 6 (ci 0)),
ia 8 (.mov 7),
ic 8 false 9 (.fadr 0 3),
ic 8 false 10 (.load none 9),
ic 8 false 11 (.fadr 0 2),
ic 8 false 12 (.load none 11),
ic 8 false 13 (.bin .geq 10 12),
ia 14 (.pick 8 (.c (.bool true)) 13),
ia 15 (.mov 14),
ic 15 false 16 (.fadr 1 3),
ic 15 false 17 (.load none 16),
ic 15 false 18 (.bin .lss 17 (ci 0)),
ia 19 (.pick 15 (.c (.bool true)) 18),
ia 20 (.mov 19),
ic 20 false 21 (.fadr 2 3),
ic 20 false 22 (.load none 21),
ic 20 false 23 (.len false 22),
ic 20 false 24 (.bin .eql 23 (ci 0)),
ia 25 (.pick 20 (.c (.bool true)) 24),
ia 26 (.mov 25),
ic 26 false 27 (.fadr 2 3),
ic 26 false 28 (.load none 27),
ic 26 false 29 (.len false 28),
ic 26 false 30 (.fadr 1 2),
ic 26 false 31 (.load none 30),
ic 26 false 32 (.bin .gtr 29 31),
ia 33 (.pick 26 (.c (.bool true)) 32),
ia 34 (.mov 33),
ic 34 false 35 (.fadr 1 3),
ic 34 false 36 (.load none 35),
ic 34 false 37 (.fadr 1 2),
ic 34 false 38 (.load none 37),
ic 34 false 39 (.fadr 2 3),
ic 34 false 40 (.load none 39),
ic 34 false 41 (.len false 40),
ic 34 false 42 (.bin .sub 38 41),
ic 34 false 43 (.bin .gtr 36 42),
ia 44 (.pick 34 (.c (.bool true)) 43)]) [3,44]))
(.cond (.t 44)
 (.seq (.reg (nu [ia 4 (.mov (.c (.bool false)))]) [4])
(.ret))
 (.skip)))
(.seq (.reg (nu [ia 45 (.fadr 2 3),
ia 46 (.load none 45),
ia 47 (.call 135 [46,(.f 136)]),
ia 48 (.un .not 47),
ia 4 (.mov 48)]) [4])
(.ret))),
  []⟩
def F_delta_Delta_within (x:((Int)×(Int)×(List ((Int)×(Int)×List ((Int)×(Int)×(Int)×Int)))×(Int)×(Int)×(Bool)×(List UInt8)×Int)×(Int)×(Int)×List ((Int)×(Int)×(Int)×Int)):Option (Bool):=
 ((bif ((decide (x.2.1<0))==false) then (bif ((decide (x.2.1≥x.1.1))==false) then (bif ((decide (x.2.2.1<0))==false) then (bif (((((x.2.2.2.length):Nat):Int)==0)==false) then (bif ((decide ((((x.2.2.2.length):Nat):Int)>x.1.2.1))==false) then (some (decide (x.2.2.1>(IntKind.wrap .i64 (x.1.2.1-(((x.2.2.2.length):Nat):Int)))))) else (some true)) else (some true)) else (some true)) else (some true)) else (some true)).bind fun v41=>(bif v41 then (some false) else ((iterL (S:=Int) (X:=(Int)⊕((Int)×Bool)) (fun s42=>(bif (decide (s42<(((x.2.2.2.length):Nat):Int))) then (bif decide (0≤s42) then ((x.2.2.2[(s42).toNat]?).bind fun e43=>((F_delta_Delta_within_1 e43).bind fun r44=>(bif r44 then (some (Sum.inr (Sum.inl s42))) else (some (Sum.inl (IntKind.wrap .i64 (s42+1))))))) else none) else (some (Sum.inr (Sum.inr (s42,(decide (s42<(((x.2.2.2.length):Nat):Int))))))))) 0).bind fun w46=>match w46 with|Sum.inl v45=>(some (!(decide (v45≥0))))|Sum.inr w46=>(fun v47=>(some (!(decide ((-1)≥0))))) w46)))
def A_delta_Right:AFn:=⟨1,[.tmp 2],
 .seq (.reg (nu [ia 1 (.box true 0),
ia 2 (.mov (.c (.bool false)))]) [1])
(.seq (.reg (nu [ia 9 (.fadr 0 1),
ia 10 (.load none 9),
ia 11 (.fadr 1 1),
ia 12 (.load none 11),
ia 13 (.call 72 [10,12]),
ia 8 (.mov 13),
ia 14 (.ext 8 0),
ia 15 (.ext 8 1),
ia 3 (.alloc true 3 [[(.int .i64 0),(.int .i64 0),.nils]]),
ib (.store 3 3 14),
ia 4 (.mov 15)]) [1,3,4])
(.seq (.seq (.join [3] [(.normal,[(1,.keep),(24,(.val false false ⟨false,.bool⟩))])] (.reg (nu [ia 16 (.mov 4),
ia 17 (.un .not 16),
ia 18 (.mov 17),
ic 18 false 19 (.load (some 8) 1),
ic 18 false 20 (.load (some 3) 3),
ic 18 false 21 (.call 73 [19,20]),
ic 18 false 22 (.call 65 [21]),
ic 18 false 23 (.un .not 22),
ia 24 (.pick 18 (.c (.bool true)) 23)]) [1,24]))
(.cond (.t 24)
 (.seq (.reg (nu [ia 2 (.mov (.c (.bool false)))]) [2])
(.ret))
 (.skip)))
(.seq (.seq (.reg (nu [ia 25 (.fadr 2 1),
ia 26 (.load none 25),
ia 27 (.len false 26),
ia 28 (.mov (ci 0))]) [1,26,27,28])
(.seq (.block 0 (.loop [(1,.keep),(26,.keep),(27,.keep),(28,(.val false false ⟨false,(.int .i64)⟩))] [(.ret,[(2,(.val false false ⟨false,.bool⟩))]),(.exit 0,[(1,.keep),(26,.keep),(27,.keep),(28,(.val false false ⟨false,(.int .i64)⟩)),(29,(.val false false ⟨false,.bool⟩))])] (.seq (.reg (nu [ia 29 (.bin .lss 28 27)]) [1,26,27,28,29])
(.seq (.cond (.t 29)
 (.skip)
 (.exit 0))
(.seq (.seq (.block 1 (.seq (.reg (nu [ia 30 (.mov 28),
ia 31 (.iadr 3 26 28),
ia 32 (.load (some 3) 31),
ia 6 (.alloc true 3 [[(.int .i64 0),(.int .i64 0),.nils]]),
ia 5 (.mov 30),
ib (.store 3 6 32)]) [1,5,6,26,27,28])
(.seq (.seq (.reg (nu [ia 33 (.load (some 8) 1),
ia 34 (.load (some 3) 6),
ia 35 (.call 74 [33,34]),
ia 36 (.un .not 35)]) [1,5,6,26,27,28,36])
(.cond (.t 36)
 (.seq (.reg (nu [ia 2 (.mov (.c (.bool false)))]) [2])
(.ret))
 (.skip)))
(.seq (.seq (.reg (nu [ia 37 (.mov 5),
ia 38 (.bin .eql 37 (ci 0))]) [1,5,6,26,27,28,38])
(.cond (.t 38)
 (.exit 1)
 (.skip)))
(.seq (.reg (nu [ia 39 (.fadr 2 1),
ia 40 (.load none 39),
ia 41 (.mov 5),
ia 42 (.bin .sub 41 (ci 1)),
ia 43 (.iadr 3 40 42),
ia 44 (.load (some 3) 43),
ia 7 (.alloc true 3 [[(.int .i64 0),(.int .i64 0),.nils]]),
ib (.store 3 7 44)]) [1,6,7,26,27,28])
(.seq (.join [] [(.normal,[(1,.keep),(26,.keep),(27,.keep),(28,.keep),(67,(.val false false ⟨false,.bool⟩))])] (.reg (nu [ia 45 (.fadr 0 6),
ia 46 (.load none 45),
ia 47 (.fadr 0 7),
ia 48 (.load none 47),
ia 49 (.bin .lss 46 48),
ia 50 (.mov 49),
ic 50 false 51 (.fadr 0 6),
ic 50 false 52 (.load none 51),
ic 50 false 53 (.fadr 0 7),
ic 50 false 54 (.load none 53),
ic 50 false 55 (.bin .eql 52 54),
ic 50 false 56 (.mov 55),
ic 56 true 57 (.fadr 1 6),
ic 56 true 58 (.load none 57),
ic 56 true 59 (.fadr 1 7),
ic 56 true 60 (.load none 59),
ic 56 true 61 (.fadr 2 7),
ic 56 true 62 (.load none 61),
ic 56 true 63 (.len false 62),
ic 56 true 64 (.bin .add 60 63),
ic 56 true 65 (.bin .leq 58 64),
ic 50 false 66 (.pick 56 65 (.c (.bool false))),
ia 67 (.pick 50 (.c (.bool true)) 66)]) [1,26,27,28,67]))
(.cond (.t 67)
 (.seq (.reg (nu [ia 2 (.mov (.c (.bool false)))]) [2])
(.ret))
 (.skip))))))))
(.reg (nu []) [1,26,27,28]))
(.reg (nu [ia 68 (.bin .add 28 (ci 1)),
ia 28 (.mov 68)]) [1,26,27,28]))))))
(.reg (nu []) [])))
(.seq (.reg (nu [ia 2 (.mov (.c (.bool true)))]) [2])
(.ret))))),
  []⟩
def F_delta_Right (x:(Int)×(Int)×(List ((Int)×(Int)×List ((Int)×(Int)×(Int)×Int)))×(Int)×(Int)×(Bool)×(List UInt8)×Int):Option (Bool):=
 ((O_delta_fresh (x.1,x.2.1)).bind fun r76=>((bif ((!r76.2)==false) then ((O_delta_Delta_image (x,r76.1)).bind fun r77=>((F_paint_Right r77).bind fun r78=>(some (!r78)))) else (some true)).bind fun v79=>(bif v79 then (some false) else ((iterL (S:=Int) (X:=(Bool)⊕((Int)×Bool)) (fun s80=>(bif (decide (s80<(((x.2.2.1.length):Nat):Int))) then (bif decide (0≤s80) then ((x.2.2.1[(s80).toNat]?).bind fun e81=>((F_delta_Delta_within (x,e81)).bind fun r82=>(bif (!r82) then (some (Sum.inr (Sum.inl false))) else (bif (s80==0) then (some (Sum.inl (IntKind.wrap .i64 (s80+1)))) else (bif decide (0≤(IntKind.wrap .i64 (s80-1))) then ((x.2.2.1[((IntKind.wrap .i64 (s80-1))).toNat]?).bind fun e83=>((bif ((decide (e81.1<e83.1))==false) then (bif ((e81.1==e83.1)==true) then (some (decide (e81.2.1≤(IntKind.wrap .i64 (e83.2.1+(((e83.2.2.length):Nat):Int)))))) else (some false)) else (some true)).bind fun v84=>(bif v84 then (some (Sum.inr (Sum.inl false))) else (some (Sum.inl (IntKind.wrap .i64 (s80+1))))))) else none))))) else none) else (some (Sum.inr (Sum.inr (s80,(decide (s80<(((x.2.2.1.length):Nat):Int))))))))) 0).bind fun w86=>match w86 with|Sum.inl v85=>(some v85)|Sum.inr w86=>(fun v87=>(some true)) w86))))
def A_delta_Apply:AFn:=⟨2,[.cell 4 (some 8),.tmp 5],
 .seq (.reg (nu [ia 2 (.box true 0),
ia 3 (.box true 1),
ia 4 (.alloc true 8 [[(.int .i64 0),(.int .i64 0),.nils,(.int .i64 0),(.int .i64 0),(.bool false),(.str []),(.int .i64 0)]]),
ia 5 (.mov (ci 0))]) [2,3,4])
(.seq (.block 0 (.seq (.reg (nu [ia 10 (.load (some 8) 2),
ia 11 (.call 65 [10]),
ia 12 (.un .not 11),
ia 9 (.mov 12)]) [2,3,4,9])
(.cond (.t 9)
 (.seq (.reg (nu [ia 13 (.build [(.int .i64 0),(.int .i64 0),.nils,(.int .i64 0),(.int .i64 0),(.bool false),(.str []),(.int .i64 0)] []),
ib (.store 8 4 13),
ia 5 (.mov (ci 1))]) [4,5])
(.ret))
 (.seq (.reg (nu [ia 15 (.load (some 8) 3),
ia 16 (.call 28 [15]),
ia 17 (.un .not 16),
ia 14 (.mov 17)]) [2,3,4,14])
(.cond (.t 14)
 (.seq (.reg (nu [ia 18 (.build [(.int .i64 0),(.int .i64 0),.nils,(.int .i64 0),(.int .i64 0),(.bool false),(.str []),(.int .i64 0)] []),
ib (.store 8 4 18),
ia 5 (.mov (ci 6))]) [4,5])
(.ret))
 (.skip))))))
(.seq (.reg (nu [ia 19 (.load (some 8) 2),
ia 20 (.fadr 0 3),
ia 21 (.load none 20),
ia 22 (.fadr 1 3),
ia 23 (.load none 22),
ia 24 (.call 66 [19,21,23]),
ia 6 (.alloc true 3 [[(.int .i64 0),(.int .i64 0),.nils]]),
ib (.store 3 6 24)]) [3,4,6])
(.seq (.seq (.reg (nu [ia 25 (.fadr 2 3),
ia 26 (.load none 25),
ia 27 (.len false 26),
ia 28 (.mov (ci 0))]) [3,4,6,26,27,28])
(.seq (.block 1 (.loop [(3,.keep),(4,.keep),(6,(.box [.ty false false (.int .i64),.ty false false (.int .i64),.own (.pair (.int .i32) (.pair (.int .i64) (.pair (.int .i64) (.int .i64))))])),(26,.keep),(27,.keep),(28,(.val false false ⟨false,(.int .i64)⟩))] [(.exit 1,[(3,.keep),(4,.keep),(6,(.box [.ty false false (.int .i64),.ty false false (.int .i64),.own (.pair (.int .i32) (.pair (.int .i64) (.pair (.int .i64) (.int .i64))))])),(26,.keep),(27,.keep),(28,(.val false false ⟨false,(.int .i64)⟩)),(29,(.val false false ⟨false,.bool⟩))])] (.seq (.reg (nu [ia 29 (.bin .lss 28 27)]) [3,4,6,26,27,28,29])
(.seq (.cond (.t 29)
 (.skip)
 (.exit 1))
(.seq (.seq (.block 2 (.seq (.reg (nu [ia 30 (.iadr 3 26 28),
ia 31 (.load (some 3) 30),
ia 8 (.alloc true 3 [[(.int .i64 0),(.int .i64 0),.nils]]),
ib (.store 3 8 31)]) [3,4,6,8,26,27,28])
(.drw [⟨0,none,(some 32),.fadr 2 (.t 6)⟩,
 ⟨1,none,(some 33),.load none (.t 32)⟩,
 ⟨2,none,(some 34),.fadr 0 (.t 8)⟩,
 ⟨3,none,(some 35),.load none (.t 34)⟩,
 ⟨4,none,(some 36),.fadr 1 (.t 3)⟩,
 ⟨5,none,(some 37),.load none (.t 36)⟩,
 ⟨6,none,(some 38),.bin .mul (.t 35) (.t 37)⟩,
 ⟨7,none,(some 39),.fadr 1 (.t 8)⟩,
 ⟨8,none,(some 40),.load none (.t 39)⟩,
 ⟨9,none,(some 41),.bin .add (.t 38) (.t 40)⟩,
 ⟨10,none,(some 42),.slL 4 (.t 33) (some (.t 41)) none none⟩,
 ⟨11,none,(some 43),.fadr 2 (.t 8)⟩,
 ⟨12,none,(some 44),.load none (.t 43)⟩] [⟨⟨13,none,(some 45),.cpy 4 (.t 42) (.t 44)⟩,[],[]⟩] [3,4,6,26,27,28])))
(.reg (nu []) [3,4,6,26,27,28]))
(.reg (nu [ia 46 (.bin .add 28 (ci 1)),
ia 28 (.mov 46)]) [3,4,6,26,27,28]))))))
(.reg (nu []) [3,4,6])))
(.seq (.reg (nu [ia 47 (.load (some 8) 3),
ia 48 (.load (some 3) 6),
ia 49 (.call 73 [47,48]),
ib (.store 8 4 49),
ia 5 (.mov (ci 0))]) [4,5])
(.ret))))),
  []⟩
def F_delta_Apply (x:((Int)×(Int)×(List ((Int)×(Int)×(Int)×Int))×(Int)×(Int)×(Bool)×(List UInt8)×Int)×(Int)×(Int)×(List ((Int)×(Int)×List ((Int)×(Int)×(Int)×Int)))×(Int)×(Int)×(Bool)×(List UInt8)×Int):Option (((Int)×(Int)×(List ((Int)×(Int)×(Int)×Int))×(Int)×(Int)×(Bool)×(List UInt8)×Int)×Int):=
 ((F_paint_Right x.1).bind fun r25=>(bif (!r25) then (some ((0,(0,(([]:List ((Int)×(Int)×(Int)×Int)),(0,(0,(false,(([]:List UInt8),0))))))),1)) else ((F_delta_Right x.2).bind fun r26=>(bif (!r26) then (some ((0,(0,(([]:List ((Int)×(Int)×(Int)×Int)),(0,(0,(false,(([]:List UInt8),0))))))),6)) else ((O_delta_base (x.1,(x.2.1,x.2.2.1))).bind fun r27=>((iterL (S:=(Int)×(Int)×(List ((Int)×(Int)×(Int)×Int))×Int) (X:=(Int)×(Int)×(List ((Int)×(Int)×(Int)×Int))×(Int)×Bool) (fun s28=>(bif (decide (s28.2.2.2<(((x.2.2.2.1.length):Nat):Int))) then (bif decide (0≤s28.2.2.2) then ((x.2.2.2.1[(s28.2.2.2).toNat]?).bind fun e29=>(bif decide (0≤(IntKind.wrap .i64 ((IntKind.wrap .i64 (e29.1*x.2.2.1))+e29.2.1))) then (bif decide (((IntKind.wrap .i64 ((IntKind.wrap .i64 (e29.1*x.2.2.1))+e29.2.1))).toNat≤(s28.2.2.1.length)∧(s28.2.2.1.length)≤s28.2.2.1.length) then (bif decide (((IntKind.wrap .i64 ((IntKind.wrap .i64 (e29.1*x.2.2.1))+e29.2.1))).toNat+((s28.2.2.1.length)-((IntKind.wrap .i64 ((IntKind.wrap .i64 (e29.1*x.2.2.1))+e29.2.1))).toNat)≤s28.2.2.1.length) then (some (Sum.inl (s28.1,(s28.2.1,((s28.2.2.1.take ((IntKind.wrap .i64 ((IntKind.wrap .i64 (e29.1*x.2.2.1))+e29.2.1))).toNat++e29.2.2.take (min (e29.2.2.length) ((s28.2.2.1.length)-((IntKind.wrap .i64 ((IntKind.wrap .i64 (e29.1*x.2.2.1))+e29.2.1))).toNat))++s28.2.2.1.drop (((IntKind.wrap .i64 ((IntKind.wrap .i64 (e29.1*x.2.2.1))+e29.2.1))).toNat+min (e29.2.2.length) ((s28.2.2.1.length)-((IntKind.wrap .i64 ((IntKind.wrap .i64 (e29.1*x.2.2.1))+e29.2.1))).toNat))),(IntKind.wrap .i64 (s28.2.2.2+1))))))) else none) else none) else none)) else none) else (some (Sum.inr (s28.1,(s28.2.1,(s28.2.2.1,(s28.2.2.2,(decide (s28.2.2.2<(((x.2.2.2.1.length):Nat):Int))))))))))) (r27.1,(r27.2.1,(r27.2.2,0)))).bind fun v30=>((O_delta_Delta_image (x.2,(v30.1,(v30.2.1,v30.2.2.1)))).bind fun r31=>(some (r31,0)))))))))
def A_codec_NewWriter:AFn:=⟨0,[.tmp 0],
 .seq (.reg (nu [ia 0 (.mov (.c .nilp))]) [])
(.seq (.reg (nu [ia 1 (.build [.nils,(.int .i64 0)] []),
ia 2 (.box false 1),
ia 0 (.mov 2)]) [0])
(.ret)),
  []⟩
def O_codec_NewWriter (x:Unit):Option ((List (Int))×Int):=
 (some (([]:List (Int)),0))
def A_codec_Writer_Fail:AFn:=⟨2,[],
 .seq (.reg (nu [ia 4 (.mov 0),
ia 5 (.nilc 4),
ia 6 (.fadr 1 5),
ia 7 (.load none 6),
ia 8 (.bin .eql 7 (ci 0))]) [0,1,8])
(.cond (.t 8)
 (.reg (nu [ia 9 (.mov 0),
ia 10 (.mov 1),
ia 11 (.nilc 9),
ia 12 (.fadr 1 11),
ib (.store 1 12 10)]) [0])
 (.skip)),
  []⟩
def O_codec_Writer_Fail (x:((List (Int))×Int)×Int):Option ((List (Int))×Int):=
 (bif (x.1.2==0) then (some (x.1.1,x.2)) else (some x.1))
def A_codec_Writer_add:AFn:=⟨2,[],
 .seq (.reg (nu [ia 4 (.mov 0),
ia 5 (.nilc 4),
ia 6 (.fadr 1 5),
ia 7 (.load none 6),
ia 8 (.bin .eql 7 (ci 0))]) [0,1,8])
(.cond (.t 8)
 (.reg (nu [ia 9 (.mov 0),
ia 10 (.mov 0),
ia 11 (.nilc 10),
ia 12 (.fadr 0 11),
ia 13 (.load none 12),
ia 14 (.mov 1),
ia 15 (.app 1 1 13 14),
ia 16 (.nilc 9),
ia 17 (.fadr 0 16),
ib (.store 1 17 15)]) [0])
 (.skip)),
  [(15,(.int .u8))]⟩
def O_codec_Writer_add (x:((List (Int))×Int)×List (Int)):Option ((List (Int))×Int):=
 (bif (x.1.2==0) then (bif decide ((x.1.1.length+x.2.length)*(1+1)≤most) then (some ((x.1.1++x.2),x.1.2)) else none) else (some x.1))
def A_codec_Writer_Number:AFn:=⟨2,[],
 .seq (.seq (.join [] [(.normal,[(0,.keep),(1,.keep),(9,(.val false false ⟨false,.bool⟩))])] (.reg (nu [ia 4 (.mov 1),
ia 5 (.bin .lss 4 (ci 0)),
ia 6 (.mov 5),
ic 6 false 7 (.mov 1),
ic 6 false 8 (.bin .gtr 7 (ci 72057594037927935)),
ia 9 (.pick 6 (.c (.bool true)) 8)]) [0,1,9]))
(.cond (.t 9)
 (.seq (.reg (nu [ia 10 (.mov 0),
ia 11 (.call 159 [10,(ci 1)])]) [0])
(.ret))
 (.skip)))
(.seq (.block 0 (.loop [(0,(.obj [.own (.int .u8),.ty false false (.int .i64)])),(1,(.val false false ⟨false,(.int .i64)⟩))] [(.exit 0,[(0,(.obj [.own (.int .u8),.ty false false (.int .i64)])),(1,(.val false false ⟨false,(.int .i64)⟩)),(13,(.val false false ⟨false,.bool⟩))])] (.seq (.seq (.reg (nu [ia 12 (.mov 1),
ia 13 (.bin .geq 12 (ci 128))]) [0,1,13])
(.cond (.t 13)
 (.skip)
 (.exit 0)))
(.block 1 (.seq (.reg (nu [ia 14 (.mov 0),
ia 15 (.mov 1),
ia 16 (.bin .rem 15 (ci 128)),
ia 17 (.cvI .u8 16),
ia 18 (.bin .add 17 (.c (.int .u8 128))),
ia 19 (.bsl false 1 [(.int .u8 0)] 1 [(0,18)]),
ia 20 (.call 160 [14,19])]) [0,1])
(.reg (nu [ia 21 (.mov 1),
ia 22 (.bin .quo 21 (ci 128)),
ia 1 (.mov 22)]) [0,1]))))))
(.reg (nu [ia 23 (.mov 0),
ia 24 (.mov 1),
ia 25 (.cvI .u8 24),
ia 26 (.bsl false 1 [(.int .u8 0)] 1 [(0,25)]),
ia 27 (.call 160 [23,26])]) [0])),
 [(19,(.int .u8)),(26,(.int .u8))]⟩
def O_codec_Writer_Number (x:((List (Int))×Int)×Int):Option ((List (Int))×Int):=
 ((bif ((decide (x.2<0))==false) then (some (decide (x.2>72057594037927935))) else (some true)).bind fun v23=>(bif v23 then ((O_codec_Writer_Fail (x.1,1)).bind fun r24=>(some r24)) else ((iterL (S:=(List (Int))×(Int)×Int) (X:=(List (Int))×(Int)×(Int)×Bool) (fun s25=>(bif (decide (s25.2.2≥128)) then ((O_codec_Writer_add ((s25.1,s25.2.1),([(IntKind.wrap .u8 ((IntKind.wrap .u8 ((Int.tmod s25.2.2 128)))+128))]:List (Int)))).bind fun r26=>(some (Sum.inl (r26.1,(r26.2,(IntKind.wrap .i64 (Int.tdiv s25.2.2 128))))))) else (some (Sum.inr (s25.1,(s25.2.1,(s25.2.2,(decide (s25.2.2≥128))))))))) (x.1.1,(x.1.2,x.2))).bind fun v27=>((O_codec_Writer_add ((v27.1,v27.2.1),([(IntKind.wrap .u8 (v27.2.2.1))]:List (Int)))).bind fun r28=>(some r28)))))
def A_cell_Runs:AFn:=⟨1,[.tmp 2],
 .seq (.reg (nu [ia 2 (.mov (.c .nils))]) [0])
(.seq (.reg (nu [ia 3 (.mov (.c .nils))]) [0,3])
(.seq (.seq (.reg (nu [ia 7 (.mov 0),
ia 8 (.len false 7),
ia 9 (.mov (ci 0))]) [3,7,8,9])
(.seq (.block 0 (.loop [(3,(.own (.pair (.int .i64) (.pair (.int .i32) (.pair (.int .i64) (.pair (.int .i64) (.int .i64))))))),(7,.keep),(8,.keep),(9,(.val false false ⟨false,(.int .i64)⟩))] [(.exit 0,[(3,(.own (.pair (.int .i64) (.pair (.int .i32) (.pair (.int .i64) (.pair (.int .i64) (.int .i64))))))),(7,.keep),(8,.keep),(9,(.val false false ⟨false,(.int .i64)⟩)),(10,(.val false false ⟨false,.bool⟩))])] (.seq (.reg (nu [ia 10 (.bin .lss 9 8)]) [3,7,8,9,10])
(.seq (.cond (.t 10)
 (.skip)
 (.exit 0))
(.seq (.seq (.block 1 (.seq (.reg (nu [ia 11 (.iadr 4 7 9),
ia 12 (.load (some 4) 11),
ia 5 (.alloc true 4 [[(.int .i32 0),(.int .i64 0),(.int .i64 0),(.int .i64 0)]]),
ib (.store 4 5 12)]) [3,5,7,8,9])
(.seq (.seq (.reg (nu [ia 13 (.mov 3),
ia 14 (.len false 13),
ia 6 (.mov 14)]) [3,5,6,7,8,9])
(.seq (.join [] [(.normal,[(3,.keep),(5,.keep),(6,.keep),(7,.keep),(8,.keep),(9,.keep),(26,(.val false false ⟨false,.bool⟩))])] (.drw [⟨0,none,(some 15),.mov (.t 6)⟩,
 ⟨1,none,(some 16),.bin .gtr (.t 15) (.c (.int .i64 0))⟩,
 ⟨2,none,(some 17),.mov (.t 16)⟩,
 ⟨3,(some (17,true)),(some 18),.mov (.t 3)⟩,
 ⟨4,(some (17,true)),(some 19),.mov (.t 6)⟩,
 ⟨5,(some (17,true)),(some 20),.bin .sub (.t 19) (.c (.int .i64 1))⟩,
 ⟨6,(some (17,true)),(some 21),.iadr 5 (.t 18) (.t 20)⟩,
 ⟨7,(some (17,true)),(some 22),.fadr 1 (.t 21)⟩,
 ⟨8,(some (17,true)),(some 23),.load (some 4) (.t 22)⟩,
 ⟨9,(some (17,true)),(some 24),.load (some 4) (.t 5)⟩,
 ⟨10,(some (17,true)),(some 25),.eq false (.cells [.i .i32,.i .i64,.i .i64,.i .i64]) (.t 23) (.t 24)⟩,
 ⟨11,none,(some 26),.pick (.t 17) (.t 25) (.c (.bool false))⟩] [] [3,5,6,7,8,9,26]))
(.cond (.t 26)
 (.seq (.reg (nu [ia 27 (.mov 3),
ia 28 (.mov 6),
ia 29 (.bin .sub 28 (ci 1)),
ia 30 (.iadr 5 27 29),
ia 31 (.fadr 0 30),
ia 32 (.load none 31),
ia 33 (.bin .add 32 (ci 1)),
ia 34 (.iadr 5 27 29),
ia 35 (.fadr 0 34),
ib (.store 1 35 33)]) [3,7,8,9])
(.exit 1))
 (.skip))))
(.reg (nu [ia 36 (.mov 3),
ia 37 (.load (some 4) 5),
ia 38 (.build [(.int .i64 0),(.int .i32 0),(.int .i64 0),(.int .i64 0),(.int .i64 0)] [(0,1,(ci 1)),(1,4,37)]),
ia 39 (.bsl false 5 [(.int .i64 0),(.int .i32 0),(.int .i64 0),(.int .i64 0),(.int .i64 0)] 1 [(0,38)]),
ia 40 (.app 5 40 36 39),
ia 3 (.mov 40)]) [3,7,8,9]))))
(.reg (nu []) [3,7,8,9]))
(.reg (nu [ia 41 (.bin .add 9 (ci 1)),
ia 9 (.mov 41)]) [3,7,8,9]))))))
(.reg (nu []) [3])))
(.seq (.reg (nu [ia 42 (.mov 3),
ia 2 (.mov 42)]) [2])
(.ret)))),
  [(39,(.pair (.int .i64) (.pair (.int .i32) (.pair (.int .i64) (.pair (.int .i64) (.int .i64)))))),(40,(.pair (.int .i64) (.pair (.int .i32) (.pair (.int .i64) (.pair (.int .i64) (.int .i64))))))]⟩
def F_cell_Runs (x:List ((Int)×(Int)×(Int)×Int)):Option (List ((Int)×(Int)×(Int)×(Int)×Int)):=
 ((iterL (S:=(List ((Int)×(Int)×(Int)×(Int)×Int))×Int) (X:=(List ((Int)×(Int)×(Int)×(Int)×Int))×(Int)×Bool) (fun s55=>(bif (decide (s55.2<(((x.length):Nat):Int))) then (bif decide (0≤s55.2) then ((x[(s55.2).toNat]?).bind fun e56=>((bif ((decide ((((s55.1.length):Nat):Int)>0))==true) then (bif decide (0≤(IntKind.wrap .i64 ((((s55.1.length):Nat):Int)-1))) then (bif decide (((IntKind.wrap .i64 ((((s55.1.length):Nat):Int)-1))).toNat<s55.1.length) then ((s55.1[((IntKind.wrap .i64 ((((s55.1.length):Nat):Int)-1))).toNat]?).bind fun e57=>(some ((e57.2.1==e56.1)&&((e57.2.2.1==e56.2.1)&&((e57.2.2.2.1==e56.2.2.1)&&((e57.2.2.2.2==e56.2.2.2)&&true)))))) else none) else none) else (some false)).bind fun v58=>(bif v58 then (bif decide (0≤(IntKind.wrap .i64 ((((s55.1.length):Nat):Int)-1))) then (bif decide (((IntKind.wrap .i64 ((((s55.1.length):Nat):Int)-1))).toNat<s55.1.length) then ((s55.1[((IntKind.wrap .i64 ((((s55.1.length):Nat):Int)-1))).toNat]?).bind fun e59=>(bif decide (0≤(IntKind.wrap .i64 ((((s55.1.length):Nat):Int)-1))) then (bif decide (((IntKind.wrap .i64 ((((s55.1.length):Nat):Int)-1))).toNat<s55.1.length) then ((s55.1[((IntKind.wrap .i64 ((((s55.1.length):Nat):Int)-1))).toNat]?).bind fun e60=>(some (Sum.inl ((s55.1.set ((IntKind.wrap .i64 ((((s55.1.length):Nat):Int)-1))).toNat ((IntKind.wrap .i64 (e59.1+1)),e60.2)),(IntKind.wrap .i64 (s55.2+1)))))) else none) else none)) else none) else none) else (bif decide ((s55.1.length+([(1,e56)]:List ((Int)×(Int)×(Int)×(Int)×Int)).length)*(40+1)≤most) then (some (Sum.inl ((s55.1++([(1,e56)]:List ((Int)×(Int)×(Int)×(Int)×Int))),(IntKind.wrap .i64 (s55.2+1))))) else none)))) else none) else (some (Sum.inr (s55.1,(s55.2,(decide (s55.2<(((x.length):Nat):Int))))))))) (([]:List ((Int)×(Int)×(Int)×(Int)×Int)),0)).bind fun v61=>(some v61.1))
def A_cell_Write:AFn:=⟨2,[],
 .seq (.seq (.reg (nu [ia 8 (.mov 1),
ia 9 (.len false 8),
ia 10 (.mov (ci 0))]) [0,1,8,9,10])
(.seq (.block 0 (.loop [(0,(.obj [.own (.int .u8),.ty false false (.int .i64)])),(1,.keep),(8,.keep),(9,.keep),(10,(.val false false ⟨false,(.int .i64)⟩))] [(.ret,[(0,(.obj [.own (.int .u8),.ty false false (.int .i64)]))]),(.exit 0,[(0,(.obj [.own (.int .u8),.ty false false (.int .i64)])),(1,.keep),(8,.keep),(9,.keep),(10,(.val false false ⟨false,(.int .i64)⟩)),(11,(.val false false ⟨false,.bool⟩))])] (.seq (.reg (nu [ia 11 (.bin .lss 10 9)]) [0,1,8,9,10,11])
(.seq (.cond (.t 11)
 (.skip)
 (.exit 0))
(.seq (.seq (.block 1 (.seq (.reg (nu [ia 12 (.iadr 4 8 10),
ia 13 (.load (some 4) 12),
ia 5 (.alloc true 4 [[(.int .i32 0),(.int .i64 0),(.int .i64 0),(.int .i64 0)]]),
ib (.store 4 5 13)]) [0,1,5,8,9,10])
(.seq (.reg (nu [ia 14 (.load (some 4) 5),
ia 15 (.call 137 [14]),
ia 16 (.un .not 15)]) [0,1,8,9,10,16])
(.cond (.t 16)
 (.seq (.reg (nu [ia 17 (.mov 0),
ia 18 (.call 159 [17,(ci 1)])]) [0])
(.ret))
 (.skip)))))
(.reg (nu []) [0,1,8,9,10]))
(.reg (nu [ia 19 (.bin .add 10 (ci 1)),
ia 10 (.mov 19)]) [0,1,8,9,10]))))))
(.reg (nu []) [0,1])))
(.seq (.reg (nu [ia 20 (.mov 1),
ia 21 (.call 161 [20]),
ia 22 (.len false 21),
ia 23 (.mov (ci 0))]) [0,21,22,23])
(.seq (.block 2 (.loop [(0,(.obj [.own (.int .u8),.ty false false (.int .i64)])),(21,.keep),(22,.keep),(23,(.val false false ⟨false,(.int .i64)⟩))] [(.exit 2,[(0,(.obj [.own (.int .u8),.ty false false (.int .i64)])),(21,.keep),(22,.keep),(23,(.val false false ⟨false,(.int .i64)⟩)),(24,(.val false false ⟨false,.bool⟩))])] (.seq (.reg (nu [ia 24 (.bin .lss 23 22)]) [0,21,22,23,24])
(.seq (.cond (.t 24)
 (.skip)
 (.exit 2))
(.seq (.seq (.block 3 (.seq (.reg (nu [ia 25 (.iadr 5 21 23),
ia 26 (.load (some 5) 25),
ia 7 (.alloc true 5 [[(.int .i64 0),(.int .i32 0),(.int .i64 0),(.int .i64 0),(.int .i64 0)]]),
ib (.store 5 7 26)]) [0,7,21,22,23])
(.seq (.reg (nu [ia 27 (.mov 0),
ia 28 (.fadr 0 7),
ia 29 (.load none 28),
ia 30 (.call 111 [27,29])]) [0,7,21,22,23])
(.seq (.reg (nu [ia 31 (.mov 0),
ia 32 (.fadr 1 7),
ia 33 (.fadr 0 32),
ia 34 (.load none 33),
ia 35 (.cvI .i64 34),
ia 36 (.call 111 [31,35])]) [0,7,21,22,23])
(.seq (.reg (nu [ia 37 (.mov 0),
ia 38 (.fadr 1 7),
ia 39 (.fadr 1 38),
ia 40 (.fadr 0 39),
ia 41 (.load none 40),
ia 42 (.call 111 [37,41])]) [0,7,21,22,23])
(.seq (.reg (nu [ia 43 (.mov 0),
ia 44 (.fadr 1 7),
ia 45 (.fadr 1 44),
ia 46 (.fadr 1 45),
ia 47 (.load none 46),
ia 48 (.call 111 [43,47])]) [0,7,21,22,23])
(.reg (nu [ia 49 (.mov 0),
ia 50 (.fadr 1 7),
ia 51 (.fadr 1 50),
ia 52 (.fadr 2 51),
ia 53 (.load none 52),
ia 54 (.call 111 [49,53])]) [0,21,22,23])))))))
(.reg (nu []) [0,21,22,23]))
(.reg (nu [ia 55 (.bin .add 23 (ci 1)),
ia 23 (.mov 55)]) [0,21,22,23]))))))
(.reg (nu []) [0]))),
  []⟩
def O_cell_Write (x:((List (Int))×Int)×List ((Int)×(Int)×(Int)×Int)):Option ((List (Int))×Int):=
 ((iterL (S:=(List (Int))×(Int)×Int) (X:=((List (Int))×Int)⊕((List (Int))×(Int)×(Int)×Bool)) (fun s128=>(bif (decide (s128.2.2<(((x.2.length):Nat):Int))) then (bif decide (0≤s128.2.2) then ((x.2[(s128.2.2).toNat]?).bind fun e129=>((F_cell_Right e129).bind fun r130=>(bif (!r130) then ((O_codec_Writer_Fail ((s128.1,s128.2.1),1)).bind fun r131=>(some (Sum.inr (Sum.inl r131)))) else (some (Sum.inl (s128.1,(s128.2.1,(IntKind.wrap .i64 (s128.2.2+1))))))))) else none) else (some (Sum.inr (Sum.inr (s128.1,(s128.2.1,(s128.2.2,(decide (s128.2.2<(((x.2.length):Nat):Int))))))))))) (x.1.1,(x.1.2,0))).bind fun w133=>match w133 with|Sum.inl v132=>(some v132)|Sum.inr w133=>(fun v134=>((F_cell_Runs x.2).bind fun r135=>((iterL (S:=(List (Int))×(Int)×Int) (X:=(List (Int))×(Int)×(Int)×Bool) (fun s136=>(bif (decide (s136.2.2<(((r135.length):Nat):Int))) then (bif decide (0≤s136.2.2) then ((r135[(s136.2.2).toNat]?).bind fun e137=>((O_codec_Writer_Number ((s136.1,s136.2.1),e137.1)).bind fun r138=>((O_codec_Writer_Number (r138,(IntKind.wrap .i64 (e137.2.1)))).bind fun r139=>((O_codec_Writer_Number (r139,e137.2.2.1)).bind fun r140=>((O_codec_Writer_Number (r140,e137.2.2.2.1)).bind fun r141=>((O_codec_Writer_Number (r141,e137.2.2.2.2)).bind fun r142=>(some (Sum.inl (r142.1,(r142.2,(IntKind.wrap .i64 (s136.2.2+1)))))))))))) else none) else (some (Sum.inr (s136.1,(s136.2.1,(s136.2.2,(decide (s136.2.2<(((r135.length):Nat):Int)))))))))) (v134.1,(v134.2.1,0))).bind fun v143=>(some (v143.1,v143.2.1))))) w133)
def A_codec_Writer_Bool:AFn:=⟨2,[],
 .seq (.seq (.reg (nu [ia 4 (.mov 1)]) [0,4])
(.cond (.t 4)
 (.seq (.reg (nu [ia 5 (.mov 0),
ia 6 (.bsl false 1 [(.int .u8 0)] 1 [(0,(.c (.int .u8 1)))]),
ia 7 (.call 160 [5,6])]) [0])
(.ret))
 (.skip)))
(.reg (nu [ia 8 (.mov 0),
ia 9 (.bsl false 1 [(.int .u8 0)] 1 [(0,(.c (.int .u8 0)))]),
ia 10 (.call 160 [8,9])]) [0]),
 [(6,(.int .u8)),(9,(.int .u8))]⟩
def O_codec_Writer_Bool (x:((List (Int))×Int)×Bool):Option ((List (Int))×Int):=
 (bif x.2 then ((O_codec_Writer_add (x.1,([1]:List (Int)))).bind fun r4=>(some r4)) else ((O_codec_Writer_add (x.1,([0]:List (Int)))).bind fun r5=>(some r5)))
def A_codec_Writer_Text:AFn:=⟨2,[],
 .seq (.reg (nu [ia 4 (.mov 0),
ia 5 (.mov 1),
ia 6 (.len false 5),
ia 7 (.call 111 [4,6])]) [0,1])
(.reg (nu [ia 8 (.mov 0),
ia 9 (.mov 1),
ia 10 (.call 160 [8,9])]) [0]),
 []⟩
def O_codec_Writer_Text (x:((List (Int))×Int)×List (Int)):Option ((List (Int))×Int):=
 ((O_codec_Writer_Number (x.1,(((x.2.length):Nat):Int))).bind fun r3=>((O_codec_Writer_add (r3,x.2)).bind fun r4=>(some r4)))
def A_codec_Writer_Bytes:AFn:=⟨1,[.tmp 2,.tmp 3],
 .seq (.reg (nu [ia 2 (.mov (.c .nils)),
ia 3 (.mov (ci 0))]) [0])
(.seq (.seq (.reg (nu [ia 4 (.mov 0),
ia 5 (.nilc 4),
ia 6 (.fadr 1 5),
ia 7 (.load none 6),
ia 8 (.bin .neq 7 (ci 0))]) [0,8])
(.cond (.t 8)
 (.seq (.drw [⟨0,none,(some 9),.mov (.t 0)⟩,
 ⟨1,none,(some 10),.nilc (.t 9)⟩,
 ⟨2,none,(some 11),.fadr 1 (.t 10)⟩,
 ⟨3,none,(some 12),.load none (.t 11)⟩,
 ⟨4,none,(some 2),.mov (.c .nils)⟩,
 ⟨5,none,(some 3),.mov (.t 12)⟩] [] [0,2,3])
(.ret))
 (.skip)))
(.seq (.reg (nu [ia 13 (.bsl true 1 [(.int .u8 0)] 0 []),
ia 14 (.mov 0),
ia 15 (.nilc 14),
ia 16 (.fadr 0 15),
ia 17 (.load none 16),
ia 18 (.app 1 1 13 17),
ia 2 (.mov 18),
ia 3 (.mov (ci 0))]) [0,2,3])
(.ret))),
  [(13,(.int .u8)),(18,(.int .u8))]⟩
def O_codec_Writer_Bytes (x:(List (Int))×Int):Option (((List (Int))×Int)×(List (Int))×Int):=
 (bif (x.2 != 0) then (some (x,(([]:List (Int)),x.2))) else (bif decide ((([]:List (Int)).length+x.1.length)*(1+1)≤most) then (some (x,((([]:List (Int))++x.1),0))) else none))
def A_delta_Bytes:AFn:=⟨1,[.tmp 2,.tmp 3],
 .seq (.reg (nu [ia 1 (.box true 0),
ia 2 (.mov (.c .nils)),
ia 3 (.mov (ci 0))]) [1])
(.seq (.seq (.reg (nu [ia 7 (.load (some 8) 1),
ia 8 (.call 28 [7]),
ia 9 (.un .not 8)]) [1,9])
(.cond (.t 9)
 (.seq (.reg (nu [ia 2 (.mov (.c .nils)),
ia 3 (.mov (ci 6))]) [2,3])
(.ret))
 (.skip)))
(.seq (.reg (nu [ia 10 (.call 110 []),
ia 4 (.mov 10)]) [1,4])
(.seq (.reg (nu [ia 11 (.mov 4),
ia 12 (.fadr 0 1),
ia 13 (.load none 12),
ia 14 (.call 111 [11,13])]) [1,4])
(.seq (.reg (nu [ia 15 (.mov 4),
ia 16 (.fadr 1 1),
ia 17 (.load none 16),
ia 18 (.call 111 [15,17])]) [1,4])
(.seq (.reg (nu [ia 19 (.mov 4),
ia 20 (.fadr 2 1),
ia 21 (.load none 20),
ia 22 (.len false 21),
ia 23 (.call 111 [19,22])]) [1,4])
(.seq (.seq (.reg (nu [ia 24 (.fadr 2 1),
ia 25 (.load none 24),
ia 26 (.len false 25),
ia 27 (.mov (ci 0))]) [1,4,25,26,27])
(.seq (.block 0 (.loop [(1,.keep),(4,(.obj [.own (.int .u8),.ty false false (.int .i64)])),(25,.keep),(26,.keep),(27,(.val false false ⟨false,(.int .i64)⟩))] [(.exit 0,[(1,.keep),(4,(.obj [.own (.int .u8),.ty false false (.int .i64)])),(25,.keep),(26,.keep),(27,(.val false false ⟨false,(.int .i64)⟩)),(28,(.val false false ⟨false,.bool⟩))])] (.seq (.reg (nu [ia 28 (.bin .lss 27 26)]) [1,4,25,26,27,28])
(.seq (.cond (.t 28)
 (.skip)
 (.exit 0))
(.seq (.seq (.block 1 (.seq (.reg (nu [ia 29 (.iadr 3 25 27),
ia 30 (.load (some 3) 29),
ia 6 (.alloc true 3 [[(.int .i64 0),(.int .i64 0),.nils]]),
ib (.store 3 6 30)]) [1,4,6,25,26,27])
(.seq (.reg (nu [ia 31 (.mov 4),
ia 32 (.fadr 0 6),
ia 33 (.load none 32),
ia 34 (.call 111 [31,33])]) [1,4,6,25,26,27])
(.seq (.reg (nu [ia 35 (.mov 4),
ia 36 (.fadr 1 6),
ia 37 (.load none 36),
ia 38 (.call 111 [35,37])]) [1,4,6,25,26,27])
(.seq (.reg (nu [ia 39 (.mov 4),
ia 40 (.fadr 2 6),
ia 41 (.load none 40),
ia 42 (.len false 41),
ia 43 (.call 111 [39,42])]) [1,4,6,25,26,27])
(.reg (nu [ia 44 (.mov 4),
ia 45 (.fadr 2 6),
ia 46 (.load none 45),
ia 47 (.call 112 [44,46])]) [1,4,25,26,27]))))))
(.reg (nu []) [1,4,25,26,27]))
(.reg (nu [ia 48 (.bin .add 27 (ci 1)),
ia 27 (.mov 48)]) [1,4,25,26,27]))))))
(.reg (nu []) [1,4])))
(.seq (.reg (nu [ia 49 (.mov 4),
ia 50 (.fadr 3 1),
ia 51 (.load none 50),
ia 52 (.call 111 [49,51])]) [1,4])
(.seq (.reg (nu [ia 53 (.mov 4),
ia 54 (.fadr 4 1),
ia 55 (.load none 54),
ia 56 (.call 111 [53,55])]) [1,4])
(.seq (.reg (nu [ia 57 (.mov 4),
ia 58 (.fadr 5 1),
ia 59 (.load none 58),
ia 60 (.call 113 [57,59])]) [1,4])
(.seq (.reg (nu [ia 61 (.mov 4),
ia 62 (.fadr 6 1),
ia 63 (.load none 62),
ia 64 (.cvSB false 63),
ia 65 (.call 114 [61,64])]) [1,4])
(.seq (.reg (nu [ia 66 (.mov 4),
ia 67 (.fadr 7 1),
ia 68 (.load none 67),
ia 69 (.call 111 [66,68])]) [4])
(.seq (.reg (nu [ia 70 (.mov 4),
ia 71 (.call 115 [70]),
ia 72 (.ext 71 0),
ia 73 (.ext 71 1),
ia 2 (.mov 72),
ia 3 (.mov 73)]) [2,3])
(.ret))))))))))))),
  []⟩
def F_delta_Bytes (x:(Int)×(Int)×(List ((Int)×(Int)×List ((Int)×(Int)×(Int)×Int)))×(Int)×(Int)×(Bool)×(List UInt8)×Int):Option ((List (Int))×Int):=
 ((F_delta_Right x).bind fun r73=>(bif (!r73) then (some (([]:List (Int)),6)) else ((O_codec_NewWriter ()).bind fun r74=>((O_codec_Writer_Number (r74,x.1)).bind fun r75=>((O_codec_Writer_Number (r75,x.2.1)).bind fun r76=>((O_codec_Writer_Number (r76,(((x.2.2.1.length):Nat):Int))).bind fun r77=>((iterL (S:=(List (Int))×(Int)×Int) (X:=(List (Int))×(Int)×(Int)×Bool) (fun s78=>(bif (decide (s78.2.2<(((x.2.2.1.length):Nat):Int))) then (bif decide (0≤s78.2.2) then ((x.2.2.1[(s78.2.2).toNat]?).bind fun e79=>((O_codec_Writer_Number ((s78.1,s78.2.1),e79.1)).bind fun r80=>((O_codec_Writer_Number (r80,e79.2.1)).bind fun r81=>((O_codec_Writer_Number (r81,(((e79.2.2.length):Nat):Int))).bind fun r82=>((O_cell_Write (r82,e79.2.2)).bind fun r83=>(some (Sum.inl (r83.1,(r83.2,(IntKind.wrap .i64 (s78.2.2+1))))))))))) else none) else (some (Sum.inr (s78.1,(s78.2.1,(s78.2.2,(decide (s78.2.2<(((x.2.2.1.length):Nat):Int)))))))))) (r77.1,(r77.2,0))).bind fun v84=>((O_codec_Writer_Number ((v84.1,v84.2.1),x.2.2.2.1)).bind fun r85=>((O_codec_Writer_Number (r85,x.2.2.2.2.1)).bind fun r86=>((O_codec_Writer_Bool (r86,x.2.2.2.2.2.1)).bind fun r87=>(bif decide (x.2.2.2.2.2.2.1.length≤most) then ((O_codec_Writer_Text (r87,(x.2.2.2.2.2.2.1.map fun c=>((c.toNat:Nat):Int)))).bind fun r88=>((O_codec_Writer_Number (r88,x.2.2.2.2.2.2.2)).bind fun r89=>((O_codec_Writer_Bytes r89).bind fun r90=>(some r90.2)))) else none)))))))))))
def A_codec_NewReader:AFn:=⟨1,[.tmp 2],
 .seq (.reg (nu [ia 2 (.mov (.c .nilp))]) [0])
(.seq (.reg (nu [ia 3 (.bsl true 1 [(.int .u8 0)] 0 []),
ia 4 (.mov 0),
ia 5 (.app 1 1 3 4),
ia 6 (.build [.nils,(.int .i64 0)] [(0,1,5)]),
ia 7 (.box false 6),
ia 2 (.mov 7)]) [2])
(.ret)),
  [(3,(.int .u8)),(5,(.int .u8))]⟩
def O_codec_NewReader (x:List (Int)):Option ((List (Int))×Int):=
 (bif decide ((([]:List (Int)).length+x.length)*(1+1)≤most) then (some ((([]:List (Int))++x),0)) else none)
def A_codec_Reader_Fail:AFn:=⟨2,[],
 .seq (.reg (nu [ia 4 (.mov 0),
ia 5 (.nilc 4),
ia 6 (.fadr 1 5),
ia 7 (.load none 6),
ia 8 (.bin .eql 7 (ci 0))]) [0,1,8])
(.cond (.t 8)
 (.reg (nu [ia 9 (.mov 0),
ia 10 (.mov 1),
ia 11 (.nilc 9),
ia 12 (.fadr 1 11),
ib (.store 1 12 10)]) [0])
 (.skip)),
  []⟩
def O_codec_Reader_Fail (x:((List (Int))×Int)×Int):Option ((List (Int))×Int):=
 (bif (x.1.2==0) then (some (x.1.1,x.2)) else (some x.1))
def A_codec_Reader_take:AFn:=⟨2,[.tmp 4,.tmp 5],
 .seq (.reg (nu [ia 4 (.mov (.c .nils)),
ia 5 (.mov (.c (.bool false)))]) [0,1])
(.seq (.seq (.join [] [(.normal,[(0,.keep),(1,.keep),(20,(.val false false ⟨false,.bool⟩))])] (.reg (nu [ia 7 (.mov 0),
ia 8 (.nilc 7),
ia 9 (.fadr 1 8),
ia 10 (.load none 9),
ia 11 (.bin .neq 10 (ci 0)),
ia 12 (.mov 11),
ic 12 false 13 (.mov 1),
ic 12 false 14 (.mov 0),
ic 12 false 15 (.nilc 14),
ic 12 false 16 (.fadr 0 15),
ic 12 false 17 (.load none 16),
ic 12 false 18 (.len false 17),
ic 12 false 19 (.bin .gtr 13 18),
ia 20 (.pick 12 (.c (.bool true)) 19)]) [0,1,20]))
(.cond (.t 20)
 (.seq (.reg (nu [ia 21 (.mov 0),
ia 22 (.call 163 [21,(ci 4)])]) [0])
(.seq (.reg (nu [ia 4 (.mov (.c .nils)),
ia 5 (.mov (.c (.bool false)))]) [0,4,5])
(.ret)))
 (.skip)))
(.seq (.reg (nu [ia 23 (.mov 0),
ia 24 (.nilc 23),
ia 25 (.fadr 0 24),
ia 26 (.load none 25),
ia 27 (.mov 1),
ia 28 (.slL 1 26 none (some 27) none),
ia 6 (.mov 28)]) [0,1,6])
(.seq (.reg (nu [ia 29 (.mov 0),
ia 30 (.mov 0),
ia 31 (.nilc 30),
ia 32 (.fadr 0 31),
ia 33 (.load none 32),
ia 34 (.mov 1),
ia 35 (.slL 1 33 (some 34) none none),
ia 36 (.nilc 29),
ia 37 (.fadr 0 36),
ib (.store 1 37 35)]) [0,6])
(.seq (.reg (nu [ia 38 (.mov 6),
ia 4 (.mov 38),
ia 5 (.mov (.c (.bool true)))]) [0,4,5])
(.ret))))),
  []⟩
def O_codec_Reader_take (x:((List (Int))×Int)×Int):Option (((List (Int))×Int)×(List (Int))×Bool):=
 ((bif ((x.1.2 != 0)==false) then (some (decide (x.2>(((x.1.1.length):Nat):Int)))) else (some true)).bind fun v7=>(bif v7 then ((O_codec_Reader_Fail (x.1,4)).bind fun r8=>(some (r8,(([]:List (Int)),false)))) else (bif decide (0≤x.2) then (bif decide (0≤(x.2).toNat∧(x.2).toNat≤x.1.1.length) then (bif decide (0≤x.2) then (bif decide ((x.2).toNat≤(x.1.1.length)∧(x.1.1.length)≤x.1.1.length) then (some ((((x.1.1.drop (x.2).toNat).take ((x.1.1.length)-(x.2).toNat)),x.1.2),(((x.1.1.drop 0).take ((x.2).toNat-0)),true))) else none) else none) else none) else none)))
def A_codec_Reader_Number:AFn:=⟨1,[.tmp 2],
 .seq (.reg (nu [ia 2 (.mov (ci 0))]) [0])
(.seq (.reg (nu [ia 3 (.mov (ci 0))]) [0,3])
(.seq (.seq (.reg (nu [ia 7 (.mov (ci 0))]) [0,3,7])
(.block 0 (.loop [(0,(.obj [.ty true true (.lst (.int .u8)),.ty false false (.int .i64)])),(3,(.val false false ⟨false,(.int .i64)⟩)),(7,(.val false false ⟨false,(.int .i64)⟩))] [(.ret,[(0,(.obj [.ty true true (.lst (.int .u8)),.ty false false (.int .i64)])),(2,(.val false false ⟨false,(.int .i64)⟩))]),(.exit 0,[(0,(.obj [.ty true true (.lst (.int .u8)),.ty false false (.int .i64)])),(3,(.val false false ⟨false,(.int .i64)⟩)),(7,(.val false false ⟨false,(.int .i64)⟩)),(8,(.val false false ⟨false,.bool⟩))])] (.seq (.reg (nu [ia 8 (.bin .lss 7 (ci 8))]) [0,3,7,8])
(.seq (.cond (.t 8)
 (.skip)
 (.exit 0))
(.seq (.block 1 (.seq (.reg (nu [ia 9 (.mov 7),
ia 4 (.mov 9)]) [0,3,4,7])
(.seq (.reg (nu [ia 11 (.mov 0),
ia 12 (.call 162 [11,(ci 1)]),
ia 10 (.mov 12),
ia 13 (.ext 10 0),
ia 14 (.ext 10 1),
ia 5 (.mov 13),
ia 6 (.mov 14)]) [0,3,4,5,6,7])
(.seq (.block 2 (.seq (.reg (nu [ia 16 (.mov 6),
ia 17 (.un .not 16),
ia 15 (.mov 17)]) [0,3,4,5,7,15])
(.cond (.t 15)
 (.seq (.reg (nu [ia 2 (.mov (ci 0))]) [0,2])
(.ret))
 (.seq (.join [] [(.normal,[(0,.keep),(3,.keep),(4,.keep),(5,.keep),(7,.keep),(18,(.val false false ⟨false,.bool⟩))])] (.reg (nu [ia 19 (.mov 5),
ia 20 (.iadr 1 19 (ci 0)),
ia 21 (.load none 20),
ia 22 (.bin .eql 21 (.c (.int .u8 0))),
ia 23 (.mov 22),
ic 23 true 24 (.mov 4),
ic 23 true 25 (.bin .gtr 24 (ci 0)),
ia 26 (.pick 23 25 (.c (.bool false))),
ia 18 (.mov 26)]) [0,3,4,5,7,18]))
(.cond (.t 18)
 (.seq (.reg (nu [ia 27 (.mov 0),
ia 28 (.call 163 [27,(ci 6)])]) [0])
(.seq (.reg (nu [ia 2 (.mov (ci 0))]) [0,2])
(.ret)))
 (.skip))))))
(.seq (.reg (nu [ia 29 (.mov 3),
ia 30 (.mov 5),
ia 31 (.iadr 1 30 (ci 0)),
ia 32 (.load none 31),
ia 33 (.bin .and 32 (.c (.int .u8 127))),
ia 34 (.cvI .i64 33),
ia 35 (.mov 4),
ia 36 (.bin .mul (ci 7) 35),
ia 37 (.cvI .u64 36),
ia 38 (.bin .shl 34 37),
ia 39 (.bin .or 29 38),
ia 3 (.mov 39)]) [0,3,5,7])
(.seq (.reg (nu [ia 40 (.mov 5),
ia 41 (.iadr 1 40 (ci 0)),
ia 42 (.load none 41),
ia 43 (.bin .lss 42 (.c (.int .u8 128)))]) [0,3,7,43])
(.cond (.t 43)
 (.seq (.reg (nu [ia 44 (.mov 3),
ia 2 (.mov 44)]) [0,2])
(.ret))
 (.skip))))))))
(.reg (nu [ia 45 (.bin .add 7 (ci 1)),
ia 7 (.mov 45)]) [0,3,7])))))))
(.seq (.reg (nu [ia 46 (.mov 0),
ia 47 (.call 163 [46,(ci 5)])]) [0])
(.seq (.reg (nu [ia 2 (.mov (ci 0))]) [0,2])
(.ret))))),
  []⟩
def O_codec_Reader_Number (x:(List (Int))×Int):Option (((List (Int))×Int)×Int):=
 ((iterL (S:=(List (Int))×(Int)×(Int)×Int) (X:=((List (Int))×(Int)×Int)⊕((List (Int))×(Int)×(Int)×(Int)×Bool)) (fun s84=>(bif (decide (s84.2.2.2<8)) then ((O_codec_Reader_take ((s84.1,s84.2.1),1)).bind fun r85=>(bif (!r85.2.2) then (some (Sum.inr (Sum.inl (r85.1.1,(r85.1.2,0))))) else (((r85.2.1[0]?).bind fun e86=>(bif ((e86==0)==true) then (some (decide (s84.2.2.2>0))) else (some false))).bind fun v87=>(bif v87 then ((O_codec_Reader_Fail (r85.1,6)).bind fun r88=>(some (Sum.inr (Sum.inl (r88.1,(r88.2,0)))))) else ((r85.2.1[0]?).bind fun e89=>(bif decide ((IntKind.wrap .u64 ((IntKind.wrap .i64 (7*s84.2.2.2))))<0) then none else ((r85.2.1[0]?).bind fun e90=>(bif (decide (e90<128)) then (some (Sum.inr (Sum.inl (r85.1.1,(r85.1.2,(IntKind.wrap .i64 (((BitVec.ofInt (IntKind.bits .i64) s84.2.2.1|||BitVec.ofInt (IntKind.bits .i64) (IntKind.wrap .i64 ((IntKind.wrap .i64 ((IntKind.wrap .u8 (((BitVec.ofInt (IntKind.bits .u8) e89&&&BitVec.ofInt (IntKind.bits .u8) 127).toNat:Nat)))))*2^min (Int.toNat (IntKind.wrap .u64 ((IntKind.wrap .i64 (7*s84.2.2.2))))) (IntKind.bits .i64)))).toNat:Nat)))))))) else (some (Sum.inl (r85.1.1,(r85.1.2,((IntKind.wrap .i64 (((BitVec.ofInt (IntKind.bits .i64) s84.2.2.1|||BitVec.ofInt (IntKind.bits .i64) (IntKind.wrap .i64 ((IntKind.wrap .i64 ((IntKind.wrap .u8 (((BitVec.ofInt (IntKind.bits .u8) e89&&&BitVec.ofInt (IntKind.bits .u8) 127).toNat:Nat)))))*2^min (Int.toNat (IntKind.wrap .u64 ((IntKind.wrap .i64 (7*s84.2.2.2))))) (IntKind.bits .i64)))).toNat:Nat))),(IntKind.wrap .i64 (s84.2.2.2+1))))))))))))))) else (some (Sum.inr (Sum.inr (s84.1,(s84.2.1,(s84.2.2.1,(s84.2.2.2,(decide (s84.2.2.2<8))))))))))) (x.1,(x.2,(0,0)))).bind fun w92=>match w92 with|Sum.inl v91=>(some ((v91.1,v91.2.1),v91.2.2))|Sum.inr w92=>(fun v93=>((O_codec_Reader_Fail ((v93.1,v93.2.1),5)).bind fun r94=>(some (r94,0)))) w92)
def A_codec_Reader_Err:AFn:=⟨1,[.tmp 2],
 .seq (.reg (nu [ia 2 (.mov (ci 0))]) [0])
(.seq (.reg (nu [ia 3 (.mov 0),
ia 4 (.nilc 3),
ia 5 (.fadr 1 4),
ia 6 (.load none 5),
ia 2 (.mov 6)]) [0,2])
(.ret)),
  []⟩
def O_codec_Reader_Err (x:(List (Int))×Int):Option (((List (Int))×Int)×Int):=
 (some (x,x.2))
def A_cell_run:AFn:=⟨1,[.cell 2 (some 5)],
 .seq (.reg (nu [ia 2 (.alloc true 5 [[(.int .i64 0),(.int .i32 0),(.int .i64 0),(.int .i64 0),(.int .i64 0)]])]) [0,2])
(.seq (.reg (nu [ia 8 (.mov 0),
ia 9 (.call 117 [8]),
ia 10 (.mov 0),
ia 11 (.call 117 [10]),
ia 12 (.mov 0),
ia 13 (.call 117 [12]),
ia 14 (.mov 0),
ia 15 (.call 117 [14]),
ia 16 (.mov 0),
ia 17 (.call 117 [16]),
ia 3 (.mov 9),
ia 4 (.mov 11),
ia 5 (.mov 13),
ia 6 (.mov 15),
ia 7 (.mov 17)]) [0,2,3,4,5,6,7])
(.seq (.join [] [(.normal,[(0,.keep),(2,.keep),(3,.keep),(4,(.val false false ⟨false,(.int .i64)⟩)),(5,.keep),(6,.keep),(7,.keep)])] (.seq (.reg (nu [ia 18 (.mov 4),
ia 19 (.bin .gtr 18 (ci 1114111))]) [0,2,3,4,5,6,7,19])
(.cond (.t 19)
 (.reg (nu [ia 4 (.mov (ci 0))]) [0,2,3,4,5,6,7])
 (.skip))))
(.seq (.reg (nu [ia 20 (.mov 3),
ia 21 (.mov 4),
ia 22 (.cvI .i32 21),
ia 23 (.mov 5),
ia 24 (.mov 6),
ia 25 (.mov 7),
ia 26 (.build [(.int .i64 0),(.int .i64 0),(.int .i64 0)] [(0,1,23),(1,1,24),(2,1,25)]),
ia 27 (.build [(.int .i32 0),(.int .i64 0),(.int .i64 0),(.int .i64 0)] [(0,1,22),(1,3,26)]),
ia 28 (.build [(.int .i64 0),(.int .i32 0),(.int .i64 0),(.int .i64 0),(.int .i64 0)] [(0,1,20),(1,4,27)]),
ib (.store 5 2 28)]) [0,2])
(.ret)))),
  []⟩
def O_cell_run (x:(List (Int))×Int):Option (((List (Int))×Int)×(Int)×(Int)×(Int)×(Int)×Int):=
 ((O_codec_Reader_Number x).bind fun r13=>((O_codec_Reader_Number r13.1).bind fun r14=>((O_codec_Reader_Number r14.1).bind fun r15=>((O_codec_Reader_Number r15.1).bind fun r16=>((O_codec_Reader_Number r16.1).bind fun r17=>((bif (decide (r14.2>1114111)) then (some 0) else (some r14.2)).bind fun v18=>(some (r17.1,(r13.2,((IntKind.wrap .i32 (v18)),(r15.2,(r16.2,r17.2))))))))))))
def A_cell_Read:AFn:=⟨2,[.tmp 4],
 .seq (.reg (nu [ia 4 (.mov (.c .nils))]) [0,1])
(.seq (.reg (nu [ia 5 (.mov (.c .nils))]) [0,1,5])
(.seq (.seq (.block 0 (.loop [(0,(.obj [.ty true true (.lst (.int .u8)),.ty false false (.int .i64)])),(1,.keep),(5,(.own (.pair (.int .i32) (.pair (.int .i64) (.pair (.int .i64) (.int .i64))))))] [(.ret,[(0,(.obj [.ty true true (.lst (.int .u8)),.ty false false (.int .i64)])),(4,(.val false false ⟨false,(.lst (.pair (.int .i32) (.pair (.int .i64) (.pair (.int .i64) (.int .i64)))))⟩))]),(.exit 0,[(0,(.obj [.ty true true (.lst (.int .u8)),.ty false false (.int .i64)])),(1,.keep),(5,(.own (.pair (.int .i32) (.pair (.int .i64) (.pair (.int .i64) (.int .i64)))))),(10,(.val false false ⟨false,.bool⟩))])] (.seq (.seq (.reg (nu [ia 7 (.mov 5),
ia 8 (.len false 7),
ia 9 (.mov 1),
ia 10 (.bin .lss 8 9)]) [0,1,5,10])
(.cond (.t 10)
 (.skip)
 (.exit 0)))
(.seq (.block 1 (.seq (.reg (nu [ia 11 (.mov 0),
ia 12 (.call 183 [11]),
ia 6 (.alloc true 5 [[(.int .i64 0),(.int .i32 0),(.int .i64 0),(.int .i64 0),(.int .i64 0)]]),
ib (.store 5 6 12)]) [0,1,5,6])
(.seq (.seq (.reg (nu [ia 13 (.mov 0),
ia 14 (.call 118 [13]),
ia 15 (.bin .neq 14 (ci 0))]) [0,1,5,6,15])
(.cond (.t 15)
 (.seq (.reg (nu [ia 4 (.mov (.c .nils))]) [0,4])
(.ret))
 (.skip)))
(.seq (.seq (.join [] [(.normal,[(0,.keep),(1,.keep),(5,.keep),(6,.keep),(49,(.val false false ⟨false,.bool⟩))])] (.drw [⟨0,none,(some 16),.fadr 0 (.t 6)⟩,
 ⟨1,none,(some 17),.load none (.t 16)⟩,
 ⟨2,none,(some 18),.bin .eql (.t 17) (.c (.int .i64 0))⟩,
 ⟨3,none,(some 19),.mov (.t 18)⟩,
 ⟨4,(some (19,false)),(some 20),.fadr 0 (.t 6)⟩,
 ⟨5,(some (19,false)),(some 21),.load none (.t 20)⟩,
 ⟨6,(some (19,false)),(some 22),.mov (.t 1)⟩,
 ⟨7,(some (19,false)),(some 23),.mov (.t 5)⟩,
 ⟨8,(some (19,false)),(some 24),.len false (.t 23)⟩,
 ⟨9,(some (19,false)),(some 25),.bin .sub (.t 22) (.t 24)⟩,
 ⟨10,(some (19,false)),(some 26),.bin .gtr (.t 21) (.t 25)⟩,
 ⟨11,none,(some 27),.pick (.t 19) (.c (.bool true)) (.t 26)⟩,
 ⟨12,none,(some 28),.mov (.t 27)⟩,
 ⟨13,(some (28,false)),(some 29),.fadr 1 (.t 6)⟩,
 ⟨14,(some (28,false)),(some 30),.load (some 4) (.t 29)⟩,
 ⟨15,(some (28,false)),(some 31),.call 137 [(.t 30)]⟩,
 ⟨16,(some (28,false)),(some 32),.un .not (.t 31)⟩,
 ⟨17,none,(some 33),.pick (.t 28) (.c (.bool true)) (.t 32)⟩,
 ⟨18,none,(some 34),.mov (.t 33)⟩,
 ⟨19,(some (34,false)),(some 35),.mov (.t 5)⟩,
 ⟨20,(some (34,false)),(some 36),.len false (.t 35)⟩,
 ⟨21,(some (34,false)),(some 37),.bin .gtr (.t 36) (.c (.int .i64 0))⟩,
 ⟨22,(some (34,false)),(some 38),.mov (.t 37)⟩,
 ⟨23,(some (38,true)),(some 39),.mov (.t 5)⟩,
 ⟨24,(some (38,true)),(some 40),.mov (.t 5)⟩,
 ⟨25,(some (38,true)),(some 41),.len false (.t 40)⟩,
 ⟨26,(some (38,true)),(some 42),.bin .sub (.t 41) (.c (.int .i64 1))⟩,
 ⟨27,(some (38,true)),(some 43),.iadr 4 (.t 39) (.t 42)⟩,
 ⟨28,(some (38,true)),(some 44),.load (some 4) (.t 43)⟩,
 ⟨29,(some (38,true)),(some 45),.fadr 1 (.t 6)⟩,
 ⟨30,(some (38,true)),(some 46),.load (some 4) (.t 45)⟩,
 ⟨31,(some (38,true)),(some 47),.eq false (.cells [.i .i32,.i .i64,.i .i64,.i .i64]) (.t 44) (.t 46)⟩,
 ⟨32,(some (34,false)),(some 48),.pick (.t 38) (.t 47) (.c (.bool false))⟩,
 ⟨33,none,(some 49),.pick (.t 34) (.c (.bool true)) (.t 48)⟩] [] [0,1,5,6,49]))
(.cond (.t 49)
 (.seq (.reg (nu [ia 50 (.mov 0),
ia 51 (.call 163 [50,(ci 6)])]) [0])
(.seq (.reg (nu [ia 4 (.mov (.c .nils))]) [0,4])
(.ret)))
 (.skip)))
(.seq (.reg (nu [ia 52 (.fadr 0 6),
ia 53 (.load none 52),
ia 54 (.mov (ci 0))]) [0,1,5,6,53,54])
(.seq (.block 2 (.loop [(0,.keep),(1,.keep),(5,(.own (.pair (.int .i32) (.pair (.int .i64) (.pair (.int .i64) (.int .i64)))))),(6,.keep),(53,.keep),(54,(.val false false ⟨false,(.int .i64)⟩))] [(.exit 2,[(0,.keep),(1,.keep),(5,(.own (.pair (.int .i32) (.pair (.int .i64) (.pair (.int .i64) (.int .i64)))))),(6,.keep),(53,.keep),(54,(.val false false ⟨false,(.int .i64)⟩)),(55,(.val false false ⟨false,.bool⟩))])] (.seq (.reg (nu [ia 55 (.bin .lss 54 53)]) [0,1,5,6,53,54,55])
(.seq (.cond (.t 55)
 (.skip)
 (.exit 2))
(.seq (.block 3 (.reg (nu [ia 56 (.mov 5),
ia 57 (.fadr 1 6),
ia 58 (.load (some 4) 57),
ia 59 (.bsl false 4 [(.int .i32 0),(.int .i64 0),(.int .i64 0),(.int .i64 0)] 1 [(0,58)]),
ia 60 (.app 4 32 56 59),
ia 5 (.mov 60)]) [0,1,5,6,53,54]))
(.reg (nu [ia 61 (.bin .add 54 (ci 1)),
ia 54 (.mov 61)]) [0,1,5,6,53,54]))))))
(.reg (nu []) [0,1,5])))))))
(.reg (nu []) [0,1,5])))))
(.reg (nu []) [0,5]))
(.seq (.reg (nu [ia 62 (.mov 5),
ia 4 (.mov 62)]) [0,4])
(.ret)))),
  [(59,(.pair (.int .i32) (.pair (.int .i64) (.pair (.int .i64) (.int .i64))))),(60,(.pair (.int .i32) (.pair (.int .i64) (.pair (.int .i64) (.int .i64)))))]⟩
def O_cell_Read (x:((List (Int))×Int)×Int):Option (((List (Int))×Int)×List ((Int)×(Int)×(Int)×Int)):=
 ((iterL (S:=(List (Int))×(Int)×List ((Int)×(Int)×(Int)×Int)) (X:=((List (Int))×(Int)×List ((Int)×(Int)×(Int)×Int))⊕((List (Int))×(Int)×(List ((Int)×(Int)×(Int)×Int))×Bool)) (fun s123=>(bif (decide ((((s123.2.2.length):Nat):Int)<x.2)) then ((O_cell_run (s123.1,s123.2.1)).bind fun r124=>((O_codec_Reader_Err r124.1).bind fun r125=>(bif (r125.2 != 0) then (some (Sum.inr (Sum.inl (r125.1.1,(r125.1.2,([]:List ((Int)×(Int)×(Int)×Int))))))) else ((bif ((r124.2.1==0)==false) then (bif ((decide (r124.2.1>(IntKind.wrap .i64 (x.2-(((s123.2.2.length):Nat):Int)))))==false) then ((F_cell_Right r124.2.2).bind fun r126=>(bif ((!r126)==false) then (bif ((decide ((((s123.2.2.length):Nat):Int)>0))==true) then (bif decide (0≤(IntKind.wrap .i64 ((((s123.2.2.length):Nat):Int)-1))) then (bif decide (((IntKind.wrap .i64 ((((s123.2.2.length):Nat):Int)-1))).toNat<s123.2.2.length) then ((s123.2.2[((IntKind.wrap .i64 ((((s123.2.2.length):Nat):Int)-1))).toNat]?).bind fun e127=>(some ((e127.1==r124.2.2.1)&&((e127.2.1==r124.2.2.2.1)&&((e127.2.2.1==r124.2.2.2.2.1)&&((e127.2.2.2==r124.2.2.2.2.2)&&true)))))) else none) else none) else (some false)) else (some true))) else (some true)) else (some true)).bind fun v128=>(bif v128 then ((O_codec_Reader_Fail (r125.1,6)).bind fun r129=>(some (Sum.inr (Sum.inl (r129.1,(r129.2,([]:List ((Int)×(Int)×(Int)×Int)))))))) else ((iterL (S:=(List ((Int)×(Int)×(Int)×Int))×Int) (X:=(List ((Int)×(Int)×(Int)×Int))×(Int)×Bool) (fun s130=>(bif (decide (s130.2<r124.2.1)) then (bif decide ((s130.1.length+([r124.2.2]:List ((Int)×(Int)×(Int)×Int)).length)*(32+1)≤most) then (some (Sum.inl ((s130.1++([r124.2.2]:List ((Int)×(Int)×(Int)×Int))),(IntKind.wrap .i64 (s130.2+1))))) else none) else (some (Sum.inr (s130.1,(s130.2,(decide (s130.2<r124.2.1)))))))) (s123.2.2,0)).bind fun v131=>(some (Sum.inl (r125.1.1,(r125.1.2,v131.1)))))))))) else (some (Sum.inr (Sum.inr (s123.1,(s123.2.1,(s123.2.2,(decide ((((s123.2.2.length):Nat):Int)<x.2)))))))))) (x.1.1,(x.1.2,([]:List ((Int)×(Int)×(Int)×Int))))).bind fun w133=>match w133 with|Sum.inl v132=>(some ((v132.1,v132.2.1),v132.2.2))|Sum.inr w133=>(fun v134=>(some ((v134.1,v134.2.1),v134.2.2.1))) w133)
def A_delta_span:AFn:=⟨1,[.cell 2 (some 3)],
 .seq (.reg (nu [ia 2 (.alloc true 3 [[(.int .i64 0),(.int .i64 0),.nils]])]) [0,2])
(.seq (.reg (nu [ia 5 (.mov 0),
ia 6 (.call 117 [5]),
ia 7 (.mov 0),
ia 8 (.call 117 [7]),
ia 9 (.build [(.int .i64 0),(.int .i64 0),.nils] [(0,1,6),(1,1,8)]),
ia 3 (.alloc true 3 [[(.int .i64 0),(.int .i64 0),.nils]]),
ib (.store 3 3 9)]) [0,2,3])
(.seq (.reg (nu [ia 10 (.mov 0),
ia 11 (.call 117 [10]),
ia 4 (.mov 11)]) [0,2,3,4])
(.seq (.join [0] [(.normal,[(0,(.obj [.ty true true (.lst (.int .u8)),.ty false false (.int .i64)])),(2,.keep),(3,.keep),(4,.keep)])] (.seq (.join [0] [(.normal,[(0,(.obj [.ty true true (.lst (.int .u8)),.ty false false (.int .i64)])),(2,.keep),(3,.keep),(4,.keep),(22,(.val false false ⟨false,.bool⟩))])] (.reg (nu [ia 12 (.mov 0),
ia 13 (.call 118 [12]),
ia 14 (.bin .eql 13 (ci 0)),
ia 15 (.mov 14),
ic 15 true 16 (.mov 4),
ic 15 true 17 (.bin .eql 16 (ci 0)),
ic 15 true 18 (.mov 17),
ic 18 false 19 (.mov 4),
ic 18 false 20 (.bin .gtr 19 (ci 132)),
ic 15 true 21 (.pick 18 (.c (.bool true)) 20),
ia 22 (.pick 15 21 (.c (.bool false)))]) [0,2,3,4,22]))
(.cond (.t 22)
 (.reg (nu [ia 23 (.mov 0),
ia 24 (.call 163 [23,(ci 6)])]) [0,2,3,4])
 (.skip))))
(.seq (.seq (.reg (nu [ia 25 (.mov 0),
ia 26 (.call 118 [25]),
ia 27 (.bin .eql 26 (ci 0))]) [0,2,3,4,27])
(.cond (.t 27)
 (.reg (nu [ia 28 (.mov 0),
ia 29 (.mov 4),
ia 30 (.call 164 [28,29]),
ia 31 (.fadr 2 3),
ib (.store 1 31 30)]) [0,2,3])
 (.skip)))
(.seq (.reg (nu [ia 32 (.load (some 3) 3),
ib (.store 3 2 32)]) [0,2])
(.ret)))))),
  []⟩
def O_delta_span (x:(List (Int))×Int):Option (((List (Int))×Int)×(Int)×(Int)×List ((Int)×(Int)×(Int)×Int)):=
 ((O_codec_Reader_Number x).bind fun r35=>((O_codec_Reader_Number r35.1).bind fun r36=>((O_codec_Reader_Number r36.1).bind fun r37=>((((O_codec_Reader_Err r37.1).bind fun r38=>(bif ((r38.2==0)==true) then (bif ((r37.2==0)==false) then (some (r38.1.1,(r38.1.2,(decide (r37.2>132))))) else (some (r38.1.1,(r38.1.2,true)))) else (some (r38.1.1,(r38.1.2,false))))).bind fun v39=>(bif v39.2.2 then ((O_codec_Reader_Fail ((v39.1,v39.2.1),6)).bind fun r40=>(some r40)) else (some (v39.1,v39.2.1)))).bind fun v41=>((O_codec_Reader_Err v41).bind fun r42=>(bif (r42.2==0) then ((O_cell_Read (r42.1,r37.2)).bind fun r43=>(some (r43.1,(r35.2,(r36.2,r43.2))))) else (some (r42.1,(r35.2,(r36.2,([]:List ((Int)×(Int)×(Int)×Int))))))))))))
def A_codec_Reader_Byte:AFn:=⟨1,[.tmp 2],
 .seq (.reg (nu [ia 2 (.mov (.c (.int .u8 0)))]) [0])
(.seq (.reg (nu [ia 6 (.mov 0),
ia 7 (.call 162 [6,(ci 1)]),
ia 5 (.mov 7),
ia 8 (.ext 5 0),
ia 9 (.ext 5 1),
ia 3 (.mov 8),
ia 4 (.mov 9)]) [0,3,4])
(.seq (.seq (.reg (nu [ia 10 (.mov 4),
ia 11 (.un .not 10)]) [0,3,11])
(.cond (.t 11)
 (.seq (.reg (nu [ia 2 (.mov (.c (.int .u8 0)))]) [0,2])
(.ret))
 (.skip)))
(.seq (.reg (nu [ia 12 (.mov 3),
ia 13 (.iadr 1 12 (ci 0)),
ia 14 (.load none 13),
ia 2 (.mov 14)]) [0,2])
(.ret)))),
  []⟩
def O_codec_Reader_Byte (x:(List (Int))×Int):Option (((List (Int))×Int)×Int):=
 ((O_codec_Reader_take (x,1)).bind fun r4=>(bif (!r4.2.2) then (some (r4.1,0)) else ((r4.2.1[0]?).bind fun e5=>(some (r4.1,e5)))))
def A_codec_Reader_Bool:AFn:=⟨1,[.tmp 2],
 .seq (.reg (nu [ia 2 (.mov (.c (.bool false)))]) [0])
(.seq (.reg (nu [ia 4 (.mov 0),
ia 5 (.call 165 [4]),
ia 3 (.mov 5)]) [0,3])
(.seq (.join [0] [(.normal,[(0,(.obj [.ty true true (.lst (.int .u8)),.ty false false (.int .i64)])),(3,.keep)])] (.seq (.reg (nu [ia 6 (.mov 3),
ia 7 (.bin .gtr 6 (.c (.int .u8 1)))]) [0,3,7])
(.cond (.t 7)
 (.reg (nu [ia 8 (.mov 0),
ia 9 (.call 163 [8,(ci 6)])]) [0,3])
 (.skip))))
(.seq (.reg (nu [ia 10 (.mov 3),
ia 11 (.bin .eql 10 (.c (.int .u8 1))),
ia 2 (.mov 11)]) [0,2])
(.ret)))),
  []⟩
def O_codec_Reader_Bool (x:(List (Int))×Int):Option (((List (Int))×Int)×Bool):=
 ((O_codec_Reader_Byte x).bind fun r10=>((bif (decide (r10.2>1)) then ((O_codec_Reader_Fail (r10.1,6)).bind fun r11=>(some r11)) else (some r10.1)).bind fun v12=>(some (v12,(r10.2==1)))))
def A_codec_Reader_Text:AFn:=⟨2,[.tmp 4],
 .seq (.reg (nu [ia 4 (.mov (.c .nils))]) [0,1])
(.seq (.reg (nu [ia 8 (.mov 0),
ia 9 (.call 117 [8]),
ia 5 (.mov 9)]) [0,1,5])
(.seq (.join [0] [(.normal,[(0,(.obj [.ty true true (.lst (.int .u8)),.ty false false (.int .i64)])),(5,.keep)])] (.seq (.join [] [(.normal,[(0,.keep),(5,.keep),(19,(.val false false ⟨false,.bool⟩))])] (.reg (nu [ia 10 (.mov 0),
ia 11 (.nilc 10),
ia 12 (.fadr 1 11),
ia 13 (.load none 12),
ia 14 (.bin .eql 13 (ci 0)),
ia 15 (.mov 14),
ic 15 true 16 (.mov 5),
ic 15 true 17 (.mov 1),
ic 15 true 18 (.bin .gtr 16 17),
ia 19 (.pick 15 18 (.c (.bool false)))]) [0,5,19]))
(.cond (.t 19)
 (.reg (nu [ia 20 (.mov 0),
ia 21 (.call 163 [20,(ci 22)])]) [0,5])
 (.skip))))
(.seq (.reg (nu [ia 23 (.mov 0),
ia 24 (.mov 5),
ia 25 (.call 162 [23,24]),
ia 22 (.mov 25),
ia 26 (.ext 22 0),
ia 27 (.ext 22 1),
ia 6 (.mov 26),
ia 7 (.mov 27)]) [0,6,7])
(.seq (.seq (.reg (nu [ia 28 (.mov 7),
ia 29 (.un .not 28)]) [0,6,29])
(.cond (.t 29)
 (.seq (.reg (nu [ia 4 (.mov (.c .nils))]) [0,4])
(.ret))
 (.skip)))
(.seq (.reg (nu [ia 30 (.bsl true 1 [(.int .u8 0)] 0 []),
ia 31 (.mov 6),
ia 32 (.app 1 1 30 31),
ia 4 (.mov 32)]) [0,4])
(.ret)))))),
  [(30,(.int .u8)),(32,(.int .u8))]⟩
def O_codec_Reader_Text (x:((List (Int))×Int)×Int):Option (((List (Int))×Int)×List (Int)):=
 ((O_codec_Reader_Number x.1).bind fun r19=>(((bif ((r19.1.2==0)==true) then (some (decide (r19.2>x.2))) else (some false)).bind fun v20=>(bif v20 then ((O_codec_Reader_Fail (r19.1,22)).bind fun r21=>(some r21)) else (some r19.1))).bind fun v22=>((O_codec_Reader_take (v22,r19.2)).bind fun r23=>(bif (!r23.2.2) then (some (r23.1,([]:List (Int)))) else (bif decide ((([]:List (Int)).length+r23.2.1.length)*(1+1)≤most) then (some (r23.1,(([]:List (Int))++r23.2.1))) else none)))))
def A_codec_Reader_Done:AFn:=⟨1,[.tmp 2],
 .seq (.reg (nu [ia 2 (.mov (ci 0))]) [0])
(.seq (.seq (.join [] [(.normal,[(0,.keep),(15,(.val false false ⟨false,.bool⟩))])] (.reg (nu [ia 3 (.mov 0),
ia 4 (.nilc 3),
ia 5 (.fadr 1 4),
ia 6 (.load none 5),
ia 7 (.bin .eql 6 (ci 0)),
ia 8 (.mov 7),
ic 8 true 9 (.mov 0),
ic 8 true 10 (.nilc 9),
ic 8 true 11 (.fadr 0 10),
ic 8 true 12 (.load none 11),
ic 8 true 13 (.len false 12),
ic 8 true 14 (.bin .gtr 13 (ci 0)),
ia 15 (.pick 8 14 (.c (.bool false)))]) [0,15]))
(.cond (.t 15)
 (.seq (.reg (nu [ia 2 (.mov (ci 5))]) [0,2])
(.ret))
 (.skip)))
(.seq (.reg (nu [ia 16 (.mov 0),
ia 17 (.nilc 16),
ia 18 (.fadr 1 17),
ia 19 (.load none 18),
ia 2 (.mov 19)]) [0,2])
(.ret))),
  []⟩
def O_codec_Reader_Done (x:(List (Int))×Int):Option (((List (Int))×Int)×Int):=
 ((bif ((x.2==0)==true) then (some (decide ((((x.1.length):Nat):Int)>0))) else (some false)).bind fun v4=>(bif v4 then (some (x,5)) else (some (x,x.2))))
def A_delta_Read:AFn:=⟨1,[.cell 2 (some 8),.tmp 3],
 .seq (.reg (nu [ia 2 (.alloc true 8 [[(.int .i64 0),(.int .i64 0),.nils,(.int .i64 0),(.int .i64 0),(.bool false),(.str []),(.int .i64 0)]]),
ia 3 (.mov (ci 0))]) [0,2])
(.seq (.reg (nu [ia 8 (.mov 0),
ia 9 (.call 116 [8]),
ia 4 (.mov 9)]) [2,4])
(.seq (.reg (nu [ia 10 (.mov 4),
ia 11 (.call 117 [10]),
ia 12 (.mov 4),
ia 13 (.call 117 [12]),
ia 14 (.build [(.int .i64 0),(.int .i64 0),.nils,(.int .i64 0),(.int .i64 0),(.bool false),(.str []),(.int .i64 0)] [(0,1,11),(1,1,13)]),
ia 5 (.alloc true 8 [[(.int .i64 0),(.int .i64 0),.nils,(.int .i64 0),(.int .i64 0),(.bool false),(.str []),(.int .i64 0)]]),
ib (.store 8 5 14)]) [2,4,5])
(.seq (.seq (.reg (nu [ia 15 (.mov 4),
ia 16 (.call 117 [15]),
ia 6 (.mov 16)]) [2,4,5,6])
(.block 0 (.loop [(2,.keep),(4,(.obj [.ty true true (.lst (.int .u8)),.ty false false (.int .i64)])),(5,(.box [.ty false false (.int .i64),.ty false false (.int .i64),.own (.pair (.int .i64) (.pair (.int .i64) (.lst (.pair (.int .i32) (.pair (.int .i64) (.pair (.int .i64) (.int .i64))))))),.ty false false (.int .i64),.ty false false (.int .i64),.ty false false .bool,.ty false false .str,.ty false false (.int .i64)])),(6,(.val false false ⟨false,(.int .i64)⟩))] [(.exit 0,[(2,.keep),(4,(.obj [.ty true true (.lst (.int .u8)),.ty false false (.int .i64)])),(5,(.box [.ty false false (.int .i64),.ty false false (.int .i64),.own (.pair (.int .i64) (.pair (.int .i64) (.lst (.pair (.int .i32) (.pair (.int .i64) (.pair (.int .i64) (.int .i64))))))),.ty false false (.int .i64),.ty false false (.int .i64),.ty false false .bool,.ty false false .str,.ty false false (.int .i64)])),(6,(.val false false ⟨false,(.int .i64)⟩)),(23,(.val false false ⟨false,.bool⟩))])] (.seq (.seq (.join [4] [(.normal,[(2,.keep),(4,(.obj [.ty true true (.lst (.int .u8)),.ty false false (.int .i64)])),(5,.keep),(6,.keep),(23,(.val false false ⟨false,.bool⟩))])] (.reg (nu [ia 17 (.mov 6),
ia 18 (.bin .gtr 17 (ci 0)),
ia 19 (.mov 18),
ic 19 true 20 (.mov 4),
ic 19 true 21 (.call 118 [20]),
ic 19 true 22 (.bin .eql 21 (ci 0)),
ia 23 (.pick 19 22 (.c (.bool false)))]) [2,4,5,6,23]))
(.cond (.t 23)
 (.skip)
 (.exit 0)))
(.seq (.block 1 (.drw [⟨0,none,(some 26),.fadr 2 (.t 5)⟩,
 ⟨1,none,(some 27),.load none (.t 26)⟩,
 ⟨2,none,(some 28),.mov (.t 4)⟩] [⟨⟨3,none,(some 29),.call 119 [(.t 28)]⟩,[⟨1,none,(some 27),.load none (.t 26)⟩],[]⟩,
⟨⟨4,none,(some 30),.bsl true 3 [(.int .i64 0),(.int .i64 0),.nils] 1 [(0,(.t 29))]⟩,[⟨1,none,(some 27),.load none (.t 26)⟩],[]⟩,
⟨⟨5,none,(some 31),.app 3 40 (.t 27) (.t 30)⟩,[],[⟨6,none,(some 32),.fadr 2 (.t 5)⟩]⟩,
⟨⟨7,none,none,.store 1 (.t 32) (.t 31)⟩,[],[]⟩] [2,4,5,6]))
(.reg (nu [ia 24 (.mov 6),
ia 25 (.bin .sub 24 (ci 1)),
ia 6 (.mov 25)]) [2,4,5,6]))))))
(.seq (.reg (nu [ia 33 (.mov 4),
ia 34 (.call 117 [33]),
ia 35 (.mov 4),
ia 36 (.call 117 [35]),
ia 37 (.fadr 3 5),
ib (.store 1 37 34),
ia 38 (.fadr 4 5),
ib (.store 1 38 36)]) [2,4,5])
(.seq (.reg (nu [ia 39 (.mov 4),
ia 40 (.call 120 [39]),
ia 41 (.fadr 5 5),
ib (.store 1 41 40)]) [2,4,5])
(.seq (.reg (nu [ia 42 (.mov 4),
ia 43 (.call 121 [42,(ci 64)]),
ia 44 (.cvBS 43),
ia 45 (.fadr 6 5),
ib (.store 1 45 44)]) [2,4,5])
(.seq (.reg (nu [ia 46 (.mov 4),
ia 47 (.call 117 [46]),
ia 48 (.fadr 7 5),
ib (.store 1 48 47)]) [2,4,5])
(.seq (.seq (.reg (nu [ia 49 (.mov 4),
ia 50 (.call 122 [49]),
ia 7 (.mov 50)]) [2,5,7])
(.seq (.reg (nu [ia 51 (.mov 7),
ia 52 (.bin .neq 51 (ci 0))]) [2,5,7,52])
(.cond (.t 52)
 (.seq (.reg (nu [ia 53 (.build [(.int .i64 0),(.int .i64 0),.nils,(.int .i64 0),(.int .i64 0),(.bool false),(.str []),(.int .i64 0)] []),
ia 54 (.mov 7),
ib (.store 8 2 53),
ia 3 (.mov 54)]) [2,3])
(.ret))
 (.skip))))
(.seq (.seq (.reg (nu [ia 55 (.load (some 8) 5),
ia 56 (.call 28 [55]),
ia 57 (.un .not 56)]) [2,5,57])
(.cond (.t 57)
 (.seq (.reg (nu [ia 58 (.build [(.int .i64 0),(.int .i64 0),.nils,(.int .i64 0),(.int .i64 0),(.bool false),(.str []),(.int .i64 0)] []),
ib (.store 8 2 58),
ia 3 (.mov (ci 6))]) [2,3])
(.ret))
 (.skip)))
(.seq (.reg (nu [ia 59 (.load (some 8) 5),
ib (.store 8 2 59),
ia 3 (.mov (ci 0))]) [2,3])
(.ret))))))))))),
  [(30,(.pair (.int .i64) (.pair (.int .i64) (.lst (.pair (.int .i32) (.pair (.int .i64) (.pair (.int .i64) (.int .i64)))))))),(31,(.pair (.int .i64) (.pair (.int .i64) (.lst (.pair (.int .i32) (.pair (.int .i64) (.pair (.int .i64) (.int .i64))))))))]⟩
def F_delta_Read (x:List (Int)):Option (((Int)×(Int)×(List ((Int)×(Int)×List ((Int)×(Int)×(Int)×Int)))×(Int)×(Int)×(Bool)×(List UInt8)×Int)×Int):=
 ((O_codec_NewReader x).bind fun r50=>((O_codec_Reader_Number r50).bind fun r51=>((O_codec_Reader_Number r51.1).bind fun r52=>((O_codec_Reader_Number r52.1).bind fun r53=>((iterL (S:=(List (Int))×(Int)×(Int)×(Int)×(List ((Int)×(Int)×List ((Int)×(Int)×(Int)×Int)))×(Int)×(Int)×(Bool)×(List UInt8)×(Int)×Int) (X:=(List (Int))×(Int)×(Int)×(Int)×(List ((Int)×(Int)×List ((Int)×(Int)×(Int)×Int)))×(Int)×(Int)×(Bool)×(List UInt8)×(Int)×(Int)×Bool) (fun s54=>((bif ((decide (s54.2.2.2.2.2.2.2.2.2.2>0))==true) then ((O_codec_Reader_Err (s54.1,s54.2.1)).bind fun r55=>(some (r55.1.1,(r55.1.2,(r55.2==0))))) else (some (s54.1,(s54.2.1,false)))).bind fun v56=>(bif v56.2.2 then ((O_delta_span (v56.1,v56.2.1)).bind fun r57=>(bif decide ((s54.2.2.2.2.1.length+([r57.2]:List ((Int)×(Int)×List ((Int)×(Int)×(Int)×Int))).length)*(40+1)≤most) then (some (Sum.inl (r57.1.1,(r57.1.2,(s54.2.2.1,(s54.2.2.2.1,((s54.2.2.2.2.1++([r57.2]:List ((Int)×(Int)×List ((Int)×(Int)×(Int)×Int)))),(s54.2.2.2.2.2.1,(s54.2.2.2.2.2.2.1,(s54.2.2.2.2.2.2.2.1,(s54.2.2.2.2.2.2.2.2.1,(s54.2.2.2.2.2.2.2.2.2.1,(IntKind.wrap .i64 (s54.2.2.2.2.2.2.2.2.2.2-1)))))))))))))) else none)) else (some (Sum.inr (v56.1,(v56.2.1,(s54.2.2.1,(s54.2.2.2.1,(s54.2.2.2.2.1,(s54.2.2.2.2.2.1,(s54.2.2.2.2.2.2.1,(s54.2.2.2.2.2.2.2.1,(s54.2.2.2.2.2.2.2.2.1,(s54.2.2.2.2.2.2.2.2.2.1,(s54.2.2.2.2.2.2.2.2.2.2,v56.2.2)))))))))))))))) (r53.1.1,(r53.1.2,(r51.2,(r52.2,(([]:List ((Int)×(Int)×List ((Int)×(Int)×(Int)×Int))),(0,(0,(false,(([]:List UInt8),(0,r53.2))))))))))).bind fun v58=>((O_codec_Reader_Number (v58.1,v58.2.1)).bind fun r59=>((O_codec_Reader_Number r59.1).bind fun r60=>((O_codec_Reader_Bool r60.1).bind fun r61=>((O_codec_Reader_Text (r61.1,64)).bind fun r62=>((O_codec_Reader_Number r62.1).bind fun r63=>((O_codec_Reader_Done r63.1).bind fun r64=>(bif (r64.2 != 0) then (some ((0,(0,(([]:List ((Int)×(Int)×List ((Int)×(Int)×(Int)×Int))),(0,(0,(false,(([]:List UInt8),0))))))),r64.2)) else ((F_delta_Right (v58.2.2.1,(v58.2.2.2.1,(v58.2.2.2.2.1,(r59.2,(r60.2,(r61.2,((r62.2.map fun n=>UInt8.ofNat (Int.toNat n)),r63.2)))))))).bind fun r65=>(bif (!r65) then (some ((0,(0,(([]:List ((Int)×(Int)×List ((Int)×(Int)×(Int)×Int))),(0,(0,(false,(([]:List UInt8),0))))))),6)) else (some ((v58.2.2.1,(v58.2.2.2.1,(v58.2.2.2.2.1,(r59.2,(r60.2,(r61.2,((r62.2.map fun n=>UInt8.ofNat (Int.toNat n)),r63.2))))))),0))))))))))))))))
def A_batonref09_Same:AFn:=⟨2,[.tmp 4],
 .seq (.reg (nu [ia 4 (.mov (.c (.bool false)))]) [0,1])
(.seq (.seq (.reg (nu [ia 6 (.mov 0),
ia 7 (.len false 6),
ia 8 (.mov 1),
ia 9 (.len false 8),
ia 10 (.bin .neq 7 9)]) [0,1,10])
(.cond (.t 10)
 (.seq (.reg (nu [ia 4 (.mov (.c (.bool false)))]) [4])
(.ret))
 (.skip)))
(.seq (.seq (.reg (nu [ia 5 (.mov (ci 0))]) [0,1,5])
(.block 0 (.loop [(0,.keep),(1,.keep),(5,(.val false false ⟨false,(.int .i64)⟩))] [(.ret,[(4,(.val false false ⟨false,.bool⟩))]),(.exit 0,[(0,.keep),(1,.keep),(5,(.val false false ⟨false,(.int .i64)⟩)),(14,(.val false false ⟨false,.bool⟩))])] (.seq (.seq (.reg (nu [ia 11 (.mov 5),
ia 12 (.mov 0),
ia 13 (.len false 12),
ia 14 (.bin .lss 11 13)]) [0,1,5,14])
(.cond (.t 14)
 (.skip)
 (.exit 0)))
(.seq (.block 1 (.seq (.drw [⟨0,none,(some 17),.mov (.t 0)⟩,
 ⟨1,none,(some 18),.mov (.t 5)⟩,
 ⟨2,none,(some 19),.iadr 4 (.t 17) (.t 18)⟩,
 ⟨3,none,(some 20),.load (some 4) (.t 19)⟩,
 ⟨4,none,(some 21),.mov (.t 1)⟩,
 ⟨5,none,(some 22),.mov (.t 5)⟩,
 ⟨6,none,(some 23),.iadr 4 (.t 21) (.t 22)⟩,
 ⟨7,none,(some 24),.load (some 4) (.t 23)⟩,
 ⟨8,none,(some 25),.eq true (.cells [.i .i32,.i .i64,.i .i64,.i .i64]) (.t 20) (.t 24)⟩] [] [0,1,5,25])
(.cond (.t 25)
 (.seq (.reg (nu [ia 4 (.mov (.c (.bool false)))]) [4])
(.ret))
 (.skip))))
(.reg (nu [ia 15 (.mov 5),
ia 16 (.bin .add 15 (ci 1)),
ia 5 (.mov 16)]) [0,1,5]))))))
(.seq (.reg (nu [ia 4 (.mov (.c (.bool true)))]) [4])
(.ret)))),
  []⟩
def F_batonref09_Same (x:(List ((Int)×(Int)×(Int)×Int))×List ((Int)×(Int)×(Int)×Int)):Option (Bool):=
 (bif ((((x.1.length):Nat):Int) != (((x.2.length):Nat):Int)) then (some false) else ((iterL (S:=Int) (X:=(Bool)⊕((Int)×Bool)) (fun s26=>(bif (decide (s26<(((x.1.length):Nat):Int))) then (bif decide (0≤s26) then ((x.1[(s26).toNat]?).bind fun e27=>(bif decide (0≤s26) then ((x.2[(s26).toNat]?).bind fun e28=>(bif (!((e27.1==e28.1)&&((e27.2.1==e28.2.1)&&((e27.2.2.1==e28.2.2.1)&&((e27.2.2.2==e28.2.2.2)&&true))))) then (some (Sum.inr (Sum.inl false))) else (some (Sum.inl (IntKind.wrap .i64 (s26+1)))))) else none)) else none) else (some (Sum.inr (Sum.inr (s26,(decide (s26<(((x.1.length):Nat):Int))))))))) 0).bind fun w30=>match w30 with|Sum.inl v29=>(some v29)|Sum.inr w30=>(fun v31=>(some true)) w30))
def A_batonref10_Same:AFn:=⟨2,[.tmp 4],
 .seq (.reg (nu [ia 2 (.box true 0),
ia 3 (.box true 1),
ia 4 (.mov (.c (.bool false)))]) [2,3])
(.seq (.reg (nu [ia 5 (.fadr 0 2),
ia 6 (.load none 5),
ia 7 (.fadr 0 3),
ia 8 (.load none 7),
ia 9 (.bin .eql 6 8),
ia 10 (.mov 9),
ic 10 true 11 (.fadr 1 2),
ic 10 true 12 (.load none 11),
ic 10 true 13 (.fadr 1 3),
ic 10 true 14 (.load none 13),
ic 10 true 15 (.bin .eql 12 14),
ia 16 (.pick 10 15 (.c (.bool false))),
ia 17 (.mov 16),
ic 17 true 18 (.fadr 2 2),
ic 17 true 19 (.load none 18),
ic 17 true 20 (.fadr 2 3),
ic 17 true 21 (.load none 20),
ic 17 true 22 (.call 75 [19,21]),
ia 23 (.pick 17 22 (.c (.bool false))),
ia 4 (.mov 23)]) [4])
(.ret)),
  []⟩
def F_batonref10_Same (x:((Int)×(Int)×List ((Int)×(Int)×(Int)×Int))×(Int)×(Int)×List ((Int)×(Int)×(Int)×Int)):Option (Bool):=
 (bif ((x.1.1==x.2.1)==true) then (bif ((x.1.2.1==x.2.2.1)==true) then ((F_batonref09_Same (x.1.2.2,x.2.2.2)).bind fun r1=>(some r1)) else (some false)) else (some false))
def A_batonref16_Same:AFn:=⟨2,[.tmp 4],
 .seq (.reg (nu [ia 2 (.box true 0),
ia 3 (.box true 1),
ia 4 (.mov (.c (.bool false)))]) [2,3])
(.seq (.reg (nu [ia 5 (.fadr 0 2),
ia 6 (.load (some 3) 5),
ia 7 (.fadr 0 3),
ia 8 (.load (some 3) 7),
ia 9 (.call 78 [6,8]),
ia 10 (.mov 9),
ic 10 true 11 (.fadr 3 2),
ic 10 true 12 (.load none 11),
ic 10 true 13 (.fadr 3 3),
ic 10 true 14 (.load none 13),
ic 10 true 15 (.bin .eql 12 14),
ia 16 (.pick 10 15 (.c (.bool false))),
ia 17 (.mov 16),
ic 17 true 18 (.fadr 4 2),
ic 17 true 19 (.load none 18),
ic 17 true 20 (.fadr 4 3),
ic 17 true 21 (.load none 20),
ic 17 true 22 (.bin .eql 19 21),
ia 23 (.pick 17 22 (.c (.bool false))),
ia 24 (.mov 23),
ic 24 true 25 (.fadr 5 2),
ic 24 true 26 (.load none 25),
ic 24 true 27 (.fadr 5 3),
ic 24 true 28 (.load none 27),
ic 24 true 29 (.eq false (.leaf (.b)) 26 28),
ia 30 (.pick 24 29 (.c (.bool false))),
ia 31 (.mov 30),
ic 31 true 32 (.fadr 6 2),
ic 31 true 33 (.load none 32),
ic 31 true 34 (.fadr 6 3),
ic 31 true 35 (.load none 34),
ic 31 true 36 (.bin .eql 33 35),
ia 37 (.pick 31 36 (.c (.bool false))),
ia 38 (.mov 37),
ic 38 true 39 (.fadr 7 2),
ic 38 true 40 (.load none 39),
ic 38 true 41 (.fadr 7 3),
ic 38 true 42 (.load none 41),
ic 38 true 43 (.bin .eql 40 42),
ia 44 (.pick 38 43 (.c (.bool false))),
ia 4 (.mov 44)]) [4])
(.ret)),
  []⟩
def F_batonref16_Same (x:((Int)×(Int)×(List ((Int)×(Int)×(Int)×Int))×(Int)×(Int)×(Bool)×(List UInt8)×Int)×(Int)×(Int)×(List ((Int)×(Int)×(Int)×Int))×(Int)×(Int)×(Bool)×(List UInt8)×Int):Option (Bool):=
 ((F_batonref10_Same ((x.1.1,(x.1.2.1,x.1.2.2.1)),(x.2.1,(x.2.2.1,x.2.2.2.1)))).bind fun r1=>(bif (r1==true) then (bif ((x.1.2.2.2.1==x.2.2.2.2.1)==true) then (bif ((x.1.2.2.2.2.1==x.2.2.2.2.2.1)==true) then (bif ((x.1.2.2.2.2.2.1==x.2.2.2.2.2.2.1)==true) then (bif ((x.1.2.2.2.2.2.2.1==x.2.2.2.2.2.2.2.1)==true) then (some (x.1.2.2.2.2.2.2.2==x.2.2.2.2.2.2.2.2)) else (some false)) else (some false)) else (some false)) else (some false)) else (some false)))
def A_slices_Equal_api_Cell_api_Cell:AFn:=⟨2,[.tmp 4],
 .seq (.reg (nu [ia 4 (.mov (.c (.bool false)))]) [0,1])
(.seq (.seq (.reg (nu [ia 6 (.mov 0),
ia 7 (.len false 6),
ia 8 (.mov 1),
ia 9 (.len false 8),
ia 10 (.bin .neq 7 9)]) [0,1,10])
(.cond (.t 10)
 (.seq (.reg (nu [ia 4 (.mov (.c (.bool false)))]) [4])
(.ret))
 (.skip)))
(.seq (.seq (.reg (nu [ia 11 (.mov 0),
ia 12 (.len false 11),
ia 13 (.mov (ci 0))]) [0,1,12,13])
(.block 0 (.loop [(0,.keep),(1,.keep),(12,.keep),(13,(.val false false ⟨false,(.int .i64)⟩))] [(.ret,[(4,(.val false false ⟨false,.bool⟩))]),(.exit 0,[(0,.keep),(1,.keep),(12,.keep),(13,(.val false false ⟨false,(.int .i64)⟩)),(14,(.val false false ⟨false,.bool⟩))])] (.seq (.reg (nu [ia 14 (.bin .lss 13 12)]) [0,1,12,13,14])
(.seq (.cond (.t 14)
 (.skip)
 (.exit 0))
(.seq (.block 1 (.seq (.reg (nu [ia 15 (.mov 13),
ia 5 (.mov 15)]) [0,1,5,12,13])
(.seq (.drw [⟨0,none,(some 16),.mov (.t 0)⟩,
 ⟨1,none,(some 17),.mov (.t 5)⟩,
 ⟨2,none,(some 18),.iadr 4 (.t 16) (.t 17)⟩,
 ⟨3,none,(some 19),.load (some 4) (.t 18)⟩,
 ⟨4,none,(some 20),.mov (.t 1)⟩,
 ⟨5,none,(some 21),.mov (.t 5)⟩,
 ⟨6,none,(some 22),.iadr 4 (.t 20) (.t 21)⟩,
 ⟨7,none,(some 23),.load (some 4) (.t 22)⟩,
 ⟨8,none,(some 24),.eq true (.cells [.i .i32,.i .i64,.i .i64,.i .i64]) (.t 19) (.t 23)⟩] [] [0,1,12,13,24])
(.cond (.t 24)
 (.seq (.reg (nu [ia 4 (.mov (.c (.bool false)))]) [4])
(.ret))
 (.skip)))))
(.reg (nu [ia 25 (.bin .add 13 (ci 1)),
ia 13 (.mov 25)]) [0,1,12,13])))))))
(.seq (.reg (nu [ia 4 (.mov (.c (.bool true)))]) [4])
(.ret)))),
  []⟩
def F_slices_Equal_api_Cell_api_Cell (x:(List ((Int)×(Int)×(Int)×Int))×List ((Int)×(Int)×(Int)×Int)):Option (Bool):=
 (bif ((((x.1.length):Nat):Int) != (((x.2.length):Nat):Int)) then (some false) else ((iterL (S:=Int) (X:=(Bool)⊕((Int)×Bool)) (fun s26=>(bif (decide (s26<(((x.1.length):Nat):Int))) then (bif decide (0≤s26) then ((x.1[(s26).toNat]?).bind fun e27=>(bif decide (0≤s26) then ((x.2[(s26).toNat]?).bind fun e28=>(bif (!((e27.1==e28.1)&&((e27.2.1==e28.2.1)&&((e27.2.2.1==e28.2.2.1)&&((e27.2.2.2==e28.2.2.2)&&true))))) then (some (Sum.inr (Sum.inl false))) else (some (Sum.inl (IntKind.wrap .i64 (s26+1)))))) else none)) else none) else (some (Sum.inr (Sum.inr (s26,(decide (s26<(((x.1.length):Nat):Int))))))))) 0).bind fun w30=>match w30 with|Sum.inl v29=>(some v29)|Sum.inr w30=>(fun v31=>(some true)) w30))
def A_grid_Same:AFn:=⟨2,[.tmp 4],
 .seq (.reg (nu [ia 2 (.box true 0),
ia 3 (.box true 1),
ia 4 (.mov (.c (.bool false)))]) [2,3])
(.seq (.reg (nu [ia 5 (.fadr 0 2),
ia 6 (.load none 5),
ia 7 (.fadr 0 3),
ia 8 (.load none 7),
ia 9 (.bin .eql 6 8),
ia 10 (.mov 9),
ic 10 true 11 (.fadr 1 2),
ic 10 true 12 (.load none 11),
ic 10 true 13 (.fadr 1 3),
ic 10 true 14 (.load none 13),
ic 10 true 15 (.bin .eql 12 14),
ia 16 (.pick 10 15 (.c (.bool false))),
ia 17 (.mov 16),
ic 17 true 18 (.fadr 2 2),
ic 17 true 19 (.load none 18),
ic 17 true 20 (.fadr 2 3),
ic 17 true 21 (.load none 20),
ic 17 true 22 (.call 169 [19,21]),
ia 23 (.pick 17 22 (.c (.bool false))),
ia 4 (.mov 23)]) [4])
(.ret)),
  []⟩
def F_grid_Same (x:((Int)×(Int)×List ((Int)×(Int)×(Int)×Int))×(Int)×(Int)×List ((Int)×(Int)×(Int)×Int)):Option (Bool):=
 (bif ((x.1.1==x.2.1)==true) then (bif ((x.1.2.1==x.2.2.1)==true) then ((F_slices_Equal_api_Cell_api_Cell (x.1.2.2,x.2.2.2)).bind fun r1=>(some r1)) else (some false)) else (some false))
def A_paint_Same:AFn:=⟨2,[.tmp 4],
 .seq (.reg (nu [ia 2 (.box true 0),
ia 3 (.box true 1),
ia 4 (.mov (.c (.bool false)))]) [2,3])
(.seq (.reg (nu [ia 5 (.fadr 0 2),
ia 6 (.load (some 3) 5),
ia 7 (.fadr 0 3),
ia 8 (.load (some 3) 7),
ia 9 (.call 128 [6,8]),
ia 10 (.mov 9),
ic 10 true 11 (.fadr 3 2),
ic 10 true 12 (.load none 11),
ic 10 true 13 (.fadr 3 3),
ic 10 true 14 (.load none 13),
ic 10 true 15 (.bin .eql 12 14),
ia 16 (.pick 10 15 (.c (.bool false))),
ia 17 (.mov 16),
ic 17 true 18 (.fadr 4 2),
ic 17 true 19 (.load none 18),
ic 17 true 20 (.fadr 4 3),
ic 17 true 21 (.load none 20),
ic 17 true 22 (.bin .eql 19 21),
ia 23 (.pick 17 22 (.c (.bool false))),
ia 24 (.mov 23),
ic 24 true 25 (.fadr 5 2),
ic 24 true 26 (.load none 25),
ic 24 true 27 (.fadr 5 3),
ic 24 true 28 (.load none 27),
ic 24 true 29 (.eq false (.leaf (.b)) 26 28),
ia 30 (.pick 24 29 (.c (.bool false))),
ia 31 (.mov 30),
ic 31 true 32 (.fadr 6 2),
ic 31 true 33 (.load none 32),
ic 31 true 34 (.fadr 6 3),
ic 31 true 35 (.load none 34),
ic 31 true 36 (.bin .eql 33 35),
ia 37 (.pick 31 36 (.c (.bool false))),
ia 38 (.mov 37),
ic 38 true 39 (.fadr 7 2),
ic 38 true 40 (.load none 39),
ic 38 true 41 (.fadr 7 3),
ic 38 true 42 (.load none 41),
ic 38 true 43 (.bin .eql 40 42),
ia 44 (.pick 38 43 (.c (.bool false))),
ia 4 (.mov 44)]) [4])
(.ret)),
  []⟩
def F_paint_Same (x:((Int)×(Int)×(List ((Int)×(Int)×(Int)×Int))×(Int)×(Int)×(Bool)×(List UInt8)×Int)×(Int)×(Int)×(List ((Int)×(Int)×(Int)×Int))×(Int)×(Int)×(Bool)×(List UInt8)×Int):Option (Bool):=
 ((F_grid_Same ((x.1.1,(x.1.2.1,x.1.2.2.1)),(x.2.1,(x.2.2.1,x.2.2.2.1)))).bind fun r1=>(bif (r1==true) then (bif ((x.1.2.2.2.1==x.2.2.2.2.1)==true) then (bif ((x.1.2.2.2.2.1==x.2.2.2.2.2.1)==true) then (bif ((x.1.2.2.2.2.2.1==x.2.2.2.2.2.2.1)==true) then (bif ((x.1.2.2.2.2.2.2.1==x.2.2.2.2.2.2.2.1)==true) then (some (x.1.2.2.2.2.2.2.2==x.2.2.2.2.2.2.2.2)) else (some false)) else (some false)) else (some false)) else (some false)) else (some false)))
def A_batonlaw18_DeltaBack:AFn:=⟨2,[.tmp 4],
 .seq (.reg (nu [ia 2 (.box true 0),
ia 3 (.box true 1),
ia 4 (.mov (.c (.bool false)))]) [2,3])
(.seq (.seq (.reg (nu [ia 17 (.call 23 []),
ia 18 (.un .not 17)]) [2,3,18])
(.cond (.t 18)
 (.seq (.reg (nu [ia 4 (.mov (.c (.bool false)))]) [4])
(.ret))
 (.skip)))
(.seq (.seq (.join [] [(.normal,[(2,.keep),(3,.keep),(36,(.val false false ⟨false,.bool⟩))])] (.reg (nu [ia 19 (.load (some 8) 2),
ia 20 (.call 24 [19]),
ia 21 (.un .not 20),
ia 22 (.mov 21),
ic 22 false 23 (.load (some 8) 3),
ic 22 false 24 (.call 24 [23]),
ic 22 false 25 (.un .not 24),
ia 26 (.pick 22 (.c (.bool true)) 25),
ia 27 (.mov 26),
ic 27 false 28 (.load (some 8) 2),
ic 27 false 29 (.call 26 [28]),
ic 27 false 30 (.un .not 29),
ia 31 (.pick 27 (.c (.bool true)) 30),
ia 32 (.mov 31),
ic 32 false 33 (.load (some 8) 3),
ic 32 false 34 (.call 26 [33]),
ic 32 false 35 (.un .not 34),
ia 36 (.pick 32 (.c (.bool true)) 35)]) [2,3,36]))
(.cond (.t 36)
 (.seq (.reg (nu [ia 4 (.mov (.c (.bool true)))]) [4])
(.ret))
 (.skip)))
(.seq (.reg (nu [ia 38 (.load (some 8) 2),
ia 39 (.load (some 8) 3),
ia 40 (.call 25 [38,39]),
ia 37 (.mov 40),
ia 41 (.ext 37 0),
ia 42 (.ext 37 1),
ia 5 (.alloc true 8 [[(.int .i64 0),(.int .i64 0),.nils,(.int .i64 0),(.int .i64 0),(.bool false),(.str []),(.int .i64 0)]]),
ib (.store 8 5 41),
ia 6 (.mov 42)]) [2,3,5,6])
(.seq (.reg (nu [ia 44 (.load (some 8) 2),
ia 45 (.load (some 8) 5),
ia 46 (.call 35 [44,45]),
ia 43 (.mov 46),
ia 47 (.ext 43 0),
ia 48 (.ext 43 1),
ia 7 (.alloc true 8 [[(.int .i64 0),(.int .i64 0),.nils,(.int .i64 0),(.int .i64 0),(.bool false),(.str []),(.int .i64 0)]]),
ib (.store 8 7 47),
ia 8 (.mov 48)]) [2,3,5,6,7,8])
(.seq (.reg (nu [ia 50 (.load (some 8) 5),
ia 51 (.call 60 [50]),
ia 49 (.mov 51),
ia 52 (.ext 49 0),
ia 53 (.ext 49 1),
ia 9 (.mov 52),
ia 10 (.mov 53)]) [2,3,6,7,8,9,10])
(.seq (.reg (nu [ia 55 (.mov 9),
ia 56 (.call 61 [55]),
ia 54 (.mov 56),
ia 57 (.ext 54 0),
ia 58 (.ext 54 1),
ia 11 (.alloc true 8 [[(.int .i64 0),(.int .i64 0),.nils,(.int .i64 0),(.int .i64 0),(.bool false),(.str []),(.int .i64 0)]]),
ib (.store 8 11 57),
ia 12 (.mov 58)]) [2,3,6,7,8,10,11,12])
(.seq (.reg (nu [ia 60 (.load (some 8) 2),
ia 61 (.load (some 8) 11),
ia 62 (.call 35 [60,61]),
ia 59 (.mov 62),
ia 63 (.ext 59 0),
ia 64 (.ext 59 1),
ia 13 (.alloc true 8 [[(.int .i64 0),(.int .i64 0),.nils,(.int .i64 0),(.int .i64 0),(.bool false),(.str []),(.int .i64 0)]]),
ib (.store 8 13 63),
ia 14 (.mov 64)]) [3,6,7,8,10,12,13,14])
(.seq (.reg (nu [ia 66 (.load (some 8) 3),
ia 67 (.load (some 8) 3),
ia 68 (.call 25 [66,67]),
ia 65 (.mov 68),
ia 69 (.ext 65 0),
ia 70 (.ext 65 1),
ia 15 (.alloc true 8 [[(.int .i64 0),(.int .i64 0),.nils,(.int .i64 0),(.int .i64 0),(.bool false),(.str []),(.int .i64 0)]]),
ib (.store 8 15 69),
ia 16 (.mov 70)]) [3,6,7,8,10,12,13,14,15,16])
(.seq (.reg (nu [ia 71 (.mov 6),
ia 72 (.bin .eql 71 (ci 0)),
ia 73 (.mov 72),
ic 73 true 74 (.mov 8),
ic 73 true 75 (.bin .eql 74 (ci 0)),
ia 76 (.pick 73 75 (.c (.bool false))),
ia 77 (.mov 76),
ic 77 true 78 (.mov 10),
ic 77 true 79 (.bin .eql 78 (ci 0)),
ia 80 (.pick 77 79 (.c (.bool false))),
ia 81 (.mov 80),
ic 81 true 82 (.mov 12),
ic 81 true 83 (.bin .eql 82 (ci 0)),
ia 84 (.pick 81 83 (.c (.bool false))),
ia 85 (.mov 84),
ic 85 true 86 (.mov 14),
ic 85 true 87 (.bin .eql 86 (ci 0)),
ia 88 (.pick 85 87 (.c (.bool false))),
ia 89 (.mov 88),
ic 89 true 90 (.mov 16),
ic 89 true 91 (.bin .eql 90 (ci 0)),
ia 92 (.pick 89 91 (.c (.bool false))),
ia 93 (.mov 92),
ic 93 true 94 (.load (some 8) 7),
ic 93 true 95 (.load (some 8) 3),
ic 93 true 96 (.call 36 [94,95]),
ia 97 (.pick 93 96 (.c (.bool false))),
ia 98 (.mov 97),
ic 98 true 99 (.load (some 8) 13),
ic 98 true 100 (.load (some 8) 3),
ic 98 true 101 (.call 36 [99,100]),
ia 102 (.pick 98 101 (.c (.bool false))),
ia 103 (.mov 102),
ic 103 true 104 (.load (some 8) 7),
ic 103 true 105 (.load (some 8) 13),
ic 103 true 106 (.call 64 [104,105]),
ia 107 (.pick 103 106 (.c (.bool false))),
ia 108 (.mov 107),
ic 108 true 109 (.fadr 2 15),
ic 108 true 110 (.load none 109),
ic 108 true 111 (.len false 110),
ic 108 true 112 (.bin .eql 111 (ci 0)),
ia 113 (.pick 108 112 (.c (.bool false))),
ia 114 (.mov 113),
ic 114 true 115 (.load (some 8) 15),
ic 114 true 116 (.call 31 [115]),
ic 114 true 117 (.bin .eql 116 (ci 0)),
ia 118 (.pick 114 117 (.c (.bool false))),
ia 4 (.mov 118)]) [4])
(.ret)))))))))),
  []⟩
def F_batonlaw18_DeltaBack (x:((Int)×(Int)×(List ((Int)×(Int)×(Int)×Int))×(Int)×(Int)×(Bool)×(List UInt8)×Int)×(Int)×(Int)×(List ((Int)×(Int)×(Int)×Int))×(Int)×(Int)×(Bool)×(List UInt8)×Int):Option (Bool):=
 ((F_batonlaw18_awake ()).bind fun r35=>(bif (!r35) then (some false) else (((F_batonlaw17_Few x.1).bind fun r36=>(bif ((!r36)==false) then ((F_batonlaw17_Few x.2).bind fun r37=>(bif ((!r37)==false) then ((F_batonref17_Right x.1).bind fun r38=>(bif ((!r38)==false) then ((F_batonref17_Right x.2).bind fun r39=>(some (!r39))) else (some true))) else (some true))) else (some true))).bind fun v40=>(bif v40 then (some true) else ((F_delta_Of x).bind fun r41=>((F_delta_Apply (x.1,r41.1)).bind fun r42=>((F_delta_Bytes r41.1).bind fun r43=>((F_delta_Read r43.1).bind fun r44=>((F_delta_Apply (x.1,r44.1)).bind fun r45=>((F_delta_Of (x.2,x.2)).bind fun r46=>(bif ((r41.2==0)==true) then (bif ((r42.2==0)==true) then (bif ((r43.2==0)==true) then (bif ((r44.2==0)==true) then (bif ((r45.2==0)==true) then (bif ((r46.2==0)==true) then ((F_batonref16_Same (r42.1,x.2)).bind fun r47=>(bif (r47==true) then ((F_batonref16_Same (r45.1,x.2)).bind fun r48=>(bif (r48==true) then ((F_paint_Same (r42.1,r45.1)).bind fun r49=>(bif (r49==true) then (bif (((((r46.1.2.2.1.length):Nat):Int)==0)==true) then ((F_delta_Count r46.1).bind fun r50=>(some (r50==0))) else (some false)) else (some false))) else (some false))) else (some false))) else (some false)) else (some false)) else (some false)) else (some false)) else (some false)) else (some false))))))))))))
def prog:Nat→Option SFn
 |170=>some A_grid_size.fn
 |177=>some A_cell_Pen.fn
 |178=>some A_runes_Bytes.fn
 |137=>some A_cell_Right.fn
 |129=>some A_grid_Right.fn
 |184=>some A_runes_broken.fn
 |171=>some A_runes_Valid.fn
 |185=>some A_seqs_told.fn
 |186=>some A_seqs_intermediate.fn
 |187=>some A_seqs_begins.fn
 |188=>some A_seqs_numbers.fn
 |189=>some A_seqs_line.fn
 |172=>some A_seqs_Right.fn
 |130=>some A_paint_title.fn
 |65=>some A_paint_Right.fn
 |131=>some A_slices_Clone_api_Cell_api_Cell.fn
 |190=>some A_cell_Blank.fn
 |175=>some A_grid_blanks.fn
 |133=>some A_grid_New.fn
 |134=>some A_grid_Board_Grid.fn
 |72=>some A_delta_fresh.fn
 |66=>some A_delta_base.fn
 |67=>some A_delta_spans.fn
 |25=>some A_delta_Of.fn
 |31=>some A_delta_Count.fn
 |23=>some A_batonlaw18_awake.fn
 |24=>some A_batonlaw17_Few.fn
 |33=>some A_batonref10_Size.fn
 |139=>some A_batonref08_Sign.fn
 |77=>some A_batonref09_Right.fn
 |68=>some A_batonref10_Right.fn
 |69=>some A_batonref10_There.fn
 |174=>some A_batonref08_Bytes.fn
 |173=>some A_batonref08_same.fn
 |132=>some A_batonref08_Whole.fn
 |70=>some A_batonref08_Valid.fn
 |26=>some A_batonref17_Right.fn
 |73=>some A_delta_Delta_image.fn
 |176=>some I_slices_IndexFunc_api_Cell_api_Cell.fn
 |135=>some I_slices_ContainsFunc_api_Cell_api_Cell.fn
 |136=>some A_delta_Delta_within_1.fn
 |74=>some A_delta_Delta_within.fn
 |28=>some A_delta_Right.fn
 |35=>some A_delta_Apply.fn
 |110=>some A_codec_NewWriter.fn
 |159=>some A_codec_Writer_Fail.fn
 |160=>some A_codec_Writer_add.fn
 |111=>some A_codec_Writer_Number.fn
 |161=>some A_cell_Runs.fn
 |112=>some A_cell_Write.fn
 |113=>some A_codec_Writer_Bool.fn
 |114=>some A_codec_Writer_Text.fn
 |115=>some A_codec_Writer_Bytes.fn
 |60=>some A_delta_Bytes.fn
 |116=>some A_codec_NewReader.fn
 |163=>some A_codec_Reader_Fail.fn
 |162=>some A_codec_Reader_take.fn
 |117=>some A_codec_Reader_Number.fn
 |118=>some A_codec_Reader_Err.fn
 |183=>some A_cell_run.fn
 |164=>some A_cell_Read.fn
 |119=>some A_delta_span.fn
 |165=>some A_codec_Reader_Byte.fn
 |120=>some A_codec_Reader_Bool.fn
 |121=>some A_codec_Reader_Text.fn
 |122=>some A_codec_Reader_Done.fn
 |61=>some A_delta_Read.fn
 |75=>some A_batonref09_Same.fn
 |78=>some A_batonref10_Same.fn
 |36=>some A_batonref16_Same.fn
 |169=>some A_slices_Equal_api_Cell_api_Cell.fn
 |128=>some A_grid_Same.fn
 |64=>some A_paint_Same.fn
 |13=>some A_batonlaw18_DeltaBack.fn
 |_=>none
def c_grid_size:Ct:=⟨[⟨false,(.int .i64)⟩,⟨false,(.int .i64)⟩],[⟨false,.bool⟩],true,F_grid_size⟩
def c_cell_Pen:Ct:=⟨[⟨true,(.pair (.int .i64) (.pair (.int .i64) (.int .i64)))⟩],[⟨false,.bool⟩],true,F_cell_Pen⟩
def c_runes_Bytes:Ct:=⟨[⟨false,(.int .i32)⟩],[⟨false,(.lst (.int .u8))⟩],true,F_runes_Bytes⟩
def c_cell_Right:Ct:=⟨[⟨true,(.pair (.int .i32) (.pair (.int .i64) (.pair (.int .i64) (.int .i64))))⟩],[⟨false,.bool⟩],true,F_cell_Right⟩
def c_grid_Right:Ct:=⟨[⟨true,(.pair (.int .i64) (.pair (.int .i64) (.lst (.pair (.int .i32) (.pair (.int .i64) (.pair (.int .i64) (.int .i64)))))))⟩],[⟨false,.bool⟩],true,F_grid_Right⟩
def c_runes_broken:Ct:=⟨[⟨false,.str⟩],[⟨false,.bool⟩],true,F_runes_broken⟩
def c_runes_Valid:Ct:=⟨[⟨false,.str⟩],[⟨false,.bool⟩],true,F_runes_Valid⟩
def c_seqs_told:Ct:=⟨[⟨false,(.int .i32)⟩],[⟨false,.bool⟩],true,F_seqs_told⟩
def c_seqs_intermediate:Ct:=⟨[⟨false,(.int .u8)⟩],[⟨false,.bool⟩],true,F_seqs_intermediate⟩
def c_seqs_begins:Ct:=⟨[⟨false,(.int .u8)⟩],[⟨false,.bool⟩],true,F_seqs_begins⟩
def c_seqs_numbers:Ct:=⟨[⟨false,(.lst (.int .i64))⟩],[⟨false,.bool⟩],true,F_seqs_numbers⟩
def c_seqs_line:Ct:=⟨[⟨false,.str⟩],[⟨false,.bool⟩],true,F_seqs_line⟩
def c_seqs_Right:Ct:=⟨[⟨true,(.pair (.int .i64) (.pair (.int .i32) (.pair (.int .u8) (.pair (.int .u8) (.pair (.int .u8) (.pair (.lst (.int .i64)) .str))))))⟩],[⟨false,.bool⟩],true,F_seqs_Right⟩
def c_paint_title:Ct:=⟨[⟨false,.str⟩],[⟨false,.bool⟩],true,F_paint_title⟩
def c_paint_Right:Ct:=⟨[⟨true,(.pair (.int .i64) (.pair (.int .i64) (.pair (.lst (.pair (.int .i32) (.pair (.int .i64) (.pair (.int .i64) (.int .i64))))) (.pair (.int .i64) (.pair (.int .i64) (.pair .bool (.pair .str (.int .i64))))))))⟩],[⟨false,.bool⟩],true,F_paint_Right⟩
def c_slices_Clone_api_Cell_api_Cell:OC:=⟨1,[(0,(.val true true ⟨false,(.lst (.pair (.int .i32) (.pair (.int .i64) (.pair (.int .i64) (.int .i64)))))⟩))],[(2000000,(.ow .own (.pair (.int .i32) (.pair (.int .i64) (.pair (.int .i64) (.int .i64))))))],[],1,O_slices_Clone_api_Cell_api_Cell⟩
def c_cell_Blank:Ct:=⟨[⟨true,(.pair (.int .i64) (.pair (.int .i64) (.int .i64)))⟩],[⟨true,(.pair (.int .i32) (.pair (.int .i64) (.pair (.int .i64) (.int .i64))))⟩],true,F_cell_Blank⟩
def c_grid_blanks:OC:=⟨1,[(0,(.val true true ⟨false,(.int .i64)⟩))],[(2000000,(.ow .own (.pair (.int .i32) (.pair (.int .i64) (.pair (.int .i64) (.int .i64))))))],[],1,O_grid_blanks⟩
def c_grid_New:OC:=⟨2,[(0,(.val true true ⟨false,(.int .i64)⟩)),(1,(.val true true ⟨false,(.int .i64)⟩))],[(2000000,(.ow .opt (.pair (.int .i64) (.pair (.int .i64) (.ow .own (.pair (.int .i32) (.pair (.int .i64) (.pair (.int .i64) (.int .i64))))))))),(2000001,(.val false false ⟨false,(.int .i64)⟩))],[],2,O_grid_New⟩
def c_grid_Board_Grid:OC:=⟨1,[(0,(.root (.pair (.int .i64) (.pair (.int .i64) (.ow .own (.pair (.int .i32) (.pair (.int .i64) (.pair (.int .i64) (.int .i64)))))))))],[(0,(.root (.pair (.int .i64) (.pair (.int .i64) (.ow .own (.pair (.int .i32) (.pair (.int .i64) (.pair (.int .i64) (.int .i64))))))))),(2000000,(.agw (.pair (.int .i64) (.pair (.int .i64) (.ow .own (.pair (.int .i32) (.pair (.int .i64) (.pair (.int .i64) (.int .i64)))))))))],[],1,O_grid_Board_Grid⟩
def c_delta_fresh:OC:=⟨2,[(0,(.val true true ⟨false,(.int .i64)⟩)),(1,(.val true true ⟨false,(.int .i64)⟩))],[(2000000,(.agw (.pair (.int .i64) (.pair (.int .i64) (.ow .own (.pair (.int .i32) (.pair (.int .i64) (.pair (.int .i64) (.int .i64))))))))),(2000001,(.val false false ⟨false,.bool⟩))],[],2,O_delta_fresh⟩
def c_delta_base:OC:=⟨3,[(0,(.val true true ⟨true,(.pair (.int .i64) (.pair (.int .i64) (.pair (.lst (.pair (.int .i32) (.pair (.int .i64) (.pair (.int .i64) (.int .i64))))) (.pair (.int .i64) (.pair (.int .i64) (.pair .bool (.pair .str (.int .i64))))))))⟩)),(1,(.val true true ⟨false,(.int .i64)⟩)),(2,(.val true true ⟨false,(.int .i64)⟩))],[(2000000,(.agw (.pair (.int .i64) (.pair (.int .i64) (.ow .own (.pair (.int .i32) (.pair (.int .i64) (.pair (.int .i64) (.int .i64)))))))))],[],1,O_delta_base⟩
def c_delta_spans:Ct:=⟨[⟨false,(.int .i64)⟩,⟨false,(.lst (.pair (.int .i32) (.pair (.int .i64) (.pair (.int .i64) (.int .i64)))))⟩,⟨false,(.lst (.pair (.int .i32) (.pair (.int .i64) (.pair (.int .i64) (.int .i64)))))⟩],[⟨false,(.lst (.pair (.int .i64) (.pair (.int .i64) (.lst (.pair (.int .i32) (.pair (.int .i64) (.pair (.int .i64) (.int .i64))))))))⟩],true,F_delta_spans⟩
def c_delta_Of:Ct:=⟨[⟨true,(.pair (.int .i64) (.pair (.int .i64) (.pair (.lst (.pair (.int .i32) (.pair (.int .i64) (.pair (.int .i64) (.int .i64))))) (.pair (.int .i64) (.pair (.int .i64) (.pair .bool (.pair .str (.int .i64))))))))⟩,⟨true,(.pair (.int .i64) (.pair (.int .i64) (.pair (.lst (.pair (.int .i32) (.pair (.int .i64) (.pair (.int .i64) (.int .i64))))) (.pair (.int .i64) (.pair (.int .i64) (.pair .bool (.pair .str (.int .i64))))))))⟩],[⟨true,(.pair (.int .i64) (.pair (.int .i64) (.pair (.lst (.pair (.int .i64) (.pair (.int .i64) (.lst (.pair (.int .i32) (.pair (.int .i64) (.pair (.int .i64) (.int .i64)))))))) (.pair (.int .i64) (.pair (.int .i64) (.pair .bool (.pair .str (.int .i64))))))))⟩,⟨false,(.int .i64)⟩],false,F_delta_Of⟩
def c_delta_Count:Ct:=⟨[⟨true,(.pair (.int .i64) (.pair (.int .i64) (.pair (.lst (.pair (.int .i64) (.pair (.int .i64) (.lst (.pair (.int .i32) (.pair (.int .i64) (.pair (.int .i64) (.int .i64)))))))) (.pair (.int .i64) (.pair (.int .i64) (.pair .bool (.pair .str (.int .i64))))))))⟩],[⟨false,(.int .i64)⟩],true,F_delta_Count⟩
def c_batonlaw18_awake:Ct:=⟨[],[⟨false,.bool⟩],true,F_batonlaw18_awake⟩
def c_batonlaw17_Few:Ct:=⟨[⟨true,(.pair (.int .i64) (.pair (.int .i64) (.pair (.lst (.pair (.int .i32) (.pair (.int .i64) (.pair (.int .i64) (.int .i64))))) (.pair (.int .i64) (.pair (.int .i64) (.pair .bool (.pair .str (.int .i64))))))))⟩],[⟨false,.bool⟩],true,F_batonlaw17_Few⟩
def c_batonref10_Size:Ct:=⟨[⟨false,(.int .i64)⟩,⟨false,(.int .i64)⟩],[⟨false,.bool⟩],true,F_batonref10_Size⟩
def c_batonref08_Sign:Ct:=⟨[⟨false,(.int .i64)⟩],[⟨false,.bool⟩],true,F_batonref08_Sign⟩
def c_batonref09_Right:Ct:=⟨[⟨true,(.pair (.int .i32) (.pair (.int .i64) (.pair (.int .i64) (.int .i64))))⟩],[⟨false,.bool⟩],true,F_batonref09_Right⟩
def c_batonref10_Right:Ct:=⟨[⟨true,(.pair (.int .i64) (.pair (.int .i64) (.lst (.pair (.int .i32) (.pair (.int .i64) (.pair (.int .i64) (.int .i64)))))))⟩],[⟨false,.bool⟩],true,F_batonref10_Right⟩
def c_batonref10_There:Ct:=⟨[⟨true,(.pair (.int .i64) (.pair (.int .i64) (.lst (.pair (.int .i32) (.pair (.int .i64) (.pair (.int .i64) (.int .i64)))))))⟩,⟨false,(.int .i64)⟩,⟨false,(.int .i64)⟩],[⟨false,.bool⟩],true,F_batonref10_There⟩
def c_batonref08_Bytes:Ct:=⟨[⟨false,(.int .i64)⟩],[⟨false,(.lst (.int .u8))⟩],true,F_batonref08_Bytes⟩
def c_batonref08_same:Ct:=⟨[⟨false,(.lst (.int .u8))⟩,⟨false,(.lst (.int .u8))⟩],[⟨false,.bool⟩],true,F_batonref08_same⟩
def c_batonref08_Whole:Ct:=⟨[⟨false,(.lst (.int .u8))⟩],[⟨false,(.int .i64)⟩],true,F_batonref08_Whole⟩
def c_batonref08_Valid:Ct:=⟨[⟨false,(.lst (.int .u8))⟩],[⟨false,.bool⟩],true,F_batonref08_Valid⟩
def c_batonref17_Right:Ct:=⟨[⟨true,(.pair (.int .i64) (.pair (.int .i64) (.pair (.lst (.pair (.int .i32) (.pair (.int .i64) (.pair (.int .i64) (.int .i64))))) (.pair (.int .i64) (.pair (.int .i64) (.pair .bool (.pair .str (.int .i64))))))))⟩],[⟨false,.bool⟩],true,F_batonref17_Right⟩
def c_delta_Delta_image:OC:=⟨2,[(0,(.val true true ⟨true,(.pair (.int .i64) (.pair (.int .i64) (.pair (.lst (.pair (.int .i64) (.pair (.int .i64) (.lst (.pair (.int .i32) (.pair (.int .i64) (.pair (.int .i64) (.int .i64)))))))) (.pair (.int .i64) (.pair (.int .i64) (.pair .bool (.pair .str (.int .i64))))))))⟩)),(1,(.val true true ⟨true,(.pair (.int .i64) (.pair (.int .i64) (.lst (.pair (.int .i32) (.pair (.int .i64) (.pair (.int .i64) (.int .i64)))))))⟩))],[(2000000,(.val true true ⟨true,(.pair (.int .i64) (.pair (.int .i64) (.pair (.lst (.pair (.int .i32) (.pair (.int .i64) (.pair (.int .i64) (.int .i64))))) (.pair (.int .i64) (.pair (.int .i64) (.pair .bool (.pair .str (.int .i64))))))))⟩))],[],1,O_delta_Delta_image⟩
def c_delta_Delta_within_1:Ct:=⟨[⟨true,(.pair (.int .i32) (.pair (.int .i64) (.pair (.int .i64) (.int .i64))))⟩],[⟨false,.bool⟩],true,F_delta_Delta_within_1⟩
def c_delta_Delta_within:Ct:=⟨[⟨true,(.pair (.int .i64) (.pair (.int .i64) (.pair (.lst (.pair (.int .i64) (.pair (.int .i64) (.lst (.pair (.int .i32) (.pair (.int .i64) (.pair (.int .i64) (.int .i64)))))))) (.pair (.int .i64) (.pair (.int .i64) (.pair .bool (.pair .str (.int .i64))))))))⟩,⟨true,(.pair (.int .i64) (.pair (.int .i64) (.lst (.pair (.int .i32) (.pair (.int .i64) (.pair (.int .i64) (.int .i64)))))))⟩],[⟨false,.bool⟩],true,F_delta_Delta_within⟩
def c_delta_Right:Ct:=⟨[⟨true,(.pair (.int .i64) (.pair (.int .i64) (.pair (.lst (.pair (.int .i64) (.pair (.int .i64) (.lst (.pair (.int .i32) (.pair (.int .i64) (.pair (.int .i64) (.int .i64)))))))) (.pair (.int .i64) (.pair (.int .i64) (.pair .bool (.pair .str (.int .i64))))))))⟩],[⟨false,.bool⟩],true,F_delta_Right⟩
def c_delta_Apply:Ct:=⟨[⟨true,(.pair (.int .i64) (.pair (.int .i64) (.pair (.lst (.pair (.int .i32) (.pair (.int .i64) (.pair (.int .i64) (.int .i64))))) (.pair (.int .i64) (.pair (.int .i64) (.pair .bool (.pair .str (.int .i64))))))))⟩,⟨true,(.pair (.int .i64) (.pair (.int .i64) (.pair (.lst (.pair (.int .i64) (.pair (.int .i64) (.lst (.pair (.int .i32) (.pair (.int .i64) (.pair (.int .i64) (.int .i64)))))))) (.pair (.int .i64) (.pair (.int .i64) (.pair .bool (.pair .str (.int .i64))))))))⟩],[⟨true,(.pair (.int .i64) (.pair (.int .i64) (.pair (.lst (.pair (.int .i32) (.pair (.int .i64) (.pair (.int .i64) (.int .i64))))) (.pair (.int .i64) (.pair (.int .i64) (.pair .bool (.pair .str (.int .i64))))))))⟩,⟨false,(.int .i64)⟩],false,F_delta_Apply⟩
def c_codec_NewWriter:OC:=⟨0,[],[(2000000,(.ow .obj (.pair (.ow .own (.int .u8)) (.int .i64))))],[],1,O_codec_NewWriter⟩
def c_codec_Writer_Fail:OC:=⟨2,[(0,(.root (.pair (.ow .own (.int .u8)) (.int .i64)))),(1,(.val true true ⟨false,(.int .i64)⟩))],[(0,(.root (.pair (.ow .own (.int .u8)) (.int .i64))))],[],0,O_codec_Writer_Fail⟩
def c_codec_Writer_add:OC:=⟨2,[(0,(.root (.pair (.ow .own (.int .u8)) (.int .i64)))),(1,(.val true true ⟨false,(.lst (.int .u8))⟩))],[(0,(.root (.pair (.ow .own (.int .u8)) (.int .i64))))],[],0,O_codec_Writer_add⟩
def c_codec_Writer_Number:OC:=⟨2,[(0,(.root (.pair (.ow .own (.int .u8)) (.int .i64)))),(1,(.val true true ⟨false,(.int .i64)⟩))],[(0,(.root (.pair (.ow .own (.int .u8)) (.int .i64))))],[],0,O_codec_Writer_Number⟩
def c_cell_Runs:Ct:=⟨[⟨false,(.lst (.pair (.int .i32) (.pair (.int .i64) (.pair (.int .i64) (.int .i64)))))⟩],[⟨false,(.lst (.pair (.int .i64) (.pair (.int .i32) (.pair (.int .i64) (.pair (.int .i64) (.int .i64))))))⟩],true,F_cell_Runs⟩
def c_cell_Write:OC:=⟨2,[(0,(.root (.pair (.ow .own (.int .u8)) (.int .i64)))),(1,(.val true true ⟨false,(.lst (.pair (.int .i32) (.pair (.int .i64) (.pair (.int .i64) (.int .i64)))))⟩))],[(0,(.root (.pair (.ow .own (.int .u8)) (.int .i64))))],[],0,O_cell_Write⟩
def c_codec_Writer_Bool:OC:=⟨2,[(0,(.root (.pair (.ow .own (.int .u8)) (.int .i64)))),(1,(.val true true ⟨false,.bool⟩))],[(0,(.root (.pair (.ow .own (.int .u8)) (.int .i64))))],[],0,O_codec_Writer_Bool⟩
def c_codec_Writer_Text:OC:=⟨2,[(0,(.root (.pair (.ow .own (.int .u8)) (.int .i64)))),(1,(.val true true ⟨false,(.lst (.int .u8))⟩))],[(0,(.root (.pair (.ow .own (.int .u8)) (.int .i64))))],[],0,O_codec_Writer_Text⟩
def c_codec_Writer_Bytes:OC:=⟨1,[(0,(.root (.pair (.ow .own (.int .u8)) (.int .i64))))],[(0,(.root (.pair (.ow .own (.int .u8)) (.int .i64)))),(2000000,(.ow .own (.int .u8))),(2000001,(.val false false ⟨false,(.int .i64)⟩))],[],2,O_codec_Writer_Bytes⟩
def c_delta_Bytes:Ct:=⟨[⟨true,(.pair (.int .i64) (.pair (.int .i64) (.pair (.lst (.pair (.int .i64) (.pair (.int .i64) (.lst (.pair (.int .i32) (.pair (.int .i64) (.pair (.int .i64) (.int .i64)))))))) (.pair (.int .i64) (.pair (.int .i64) (.pair .bool (.pair .str (.int .i64))))))))⟩],[⟨false,(.lst (.int .u8))⟩,⟨false,(.int .i64)⟩],true,F_delta_Bytes⟩
def c_codec_NewReader:OC:=⟨1,[(0,(.val true true ⟨false,(.lst (.int .u8))⟩))],[(2000000,(.ow .obj (.pair (.lst (.int .u8)) (.int .i64))))],[],1,O_codec_NewReader⟩
def c_codec_Reader_Fail:OC:=⟨2,[(0,(.root (.pair (.lst (.int .u8)) (.int .i64)))),(1,(.val true true ⟨false,(.int .i64)⟩))],[(0,(.root (.pair (.lst (.int .u8)) (.int .i64))))],[],0,O_codec_Reader_Fail⟩
def c_codec_Reader_take:OC:=⟨2,[(0,(.root (.pair (.lst (.int .u8)) (.int .i64)))),(1,(.val true true ⟨false,(.int .i64)⟩))],[(0,(.root (.pair (.lst (.int .u8)) (.int .i64)))),(2000000,(.val true true ⟨false,(.lst (.int .u8))⟩)),(2000001,(.val false false ⟨false,.bool⟩))],[],2,O_codec_Reader_take⟩
def c_codec_Reader_Number:OC:=⟨1,[(0,(.root (.pair (.lst (.int .u8)) (.int .i64))))],[(0,(.root (.pair (.lst (.int .u8)) (.int .i64)))),(2000000,(.val false false ⟨false,(.int .i64)⟩))],[],1,O_codec_Reader_Number⟩
def c_codec_Reader_Err:OC:=⟨1,[(0,(.root (.pair (.lst (.int .u8)) (.int .i64))))],[(0,(.root (.pair (.lst (.int .u8)) (.int .i64)))),(2000000,(.val false false ⟨false,(.int .i64)⟩))],[],1,O_codec_Reader_Err⟩
def c_cell_run:OC:=⟨1,[(0,(.root (.pair (.lst (.int .u8)) (.int .i64))))],[(0,(.root (.pair (.lst (.int .u8)) (.int .i64)))),(2000000,(.val false false ⟨true,(.pair (.int .i64) (.pair (.int .i32) (.pair (.int .i64) (.pair (.int .i64) (.int .i64)))))⟩))],[],1,O_cell_run⟩
def c_cell_Read:OC:=⟨2,[(0,(.root (.pair (.lst (.int .u8)) (.int .i64)))),(1,(.val true true ⟨false,(.int .i64)⟩))],[(0,(.root (.pair (.lst (.int .u8)) (.int .i64)))),(2000000,(.val true false ⟨false,(.lst (.pair (.int .i32) (.pair (.int .i64) (.pair (.int .i64) (.int .i64)))))⟩))],[],1,O_cell_Read⟩
def c_delta_span:OC:=⟨1,[(0,(.root (.pair (.lst (.int .u8)) (.int .i64))))],[(0,(.root (.pair (.lst (.int .u8)) (.int .i64)))),(2000000,(.val true false ⟨true,(.pair (.int .i64) (.pair (.int .i64) (.lst (.pair (.int .i32) (.pair (.int .i64) (.pair (.int .i64) (.int .i64)))))))⟩))],[],1,O_delta_span⟩
def c_codec_Reader_Byte:OC:=⟨1,[(0,(.root (.pair (.lst (.int .u8)) (.int .i64))))],[(0,(.root (.pair (.lst (.int .u8)) (.int .i64)))),(2000000,(.val false false ⟨false,(.int .u8)⟩))],[],1,O_codec_Reader_Byte⟩
def c_codec_Reader_Bool:OC:=⟨1,[(0,(.root (.pair (.lst (.int .u8)) (.int .i64))))],[(0,(.root (.pair (.lst (.int .u8)) (.int .i64)))),(2000000,(.val false false ⟨false,.bool⟩))],[],1,O_codec_Reader_Bool⟩
def c_codec_Reader_Text:OC:=⟨2,[(0,(.root (.pair (.lst (.int .u8)) (.int .i64)))),(1,(.val true true ⟨false,(.int .i64)⟩))],[(0,(.root (.pair (.lst (.int .u8)) (.int .i64)))),(2000000,(.ow .own (.int .u8)))],[],1,O_codec_Reader_Text⟩
def c_codec_Reader_Done:OC:=⟨1,[(0,(.root (.pair (.lst (.int .u8)) (.int .i64))))],[(0,(.root (.pair (.lst (.int .u8)) (.int .i64)))),(2000000,(.val false false ⟨false,(.int .i64)⟩))],[],1,O_codec_Reader_Done⟩
def c_delta_Read:Ct:=⟨[⟨false,(.lst (.int .u8))⟩],[⟨true,(.pair (.int .i64) (.pair (.int .i64) (.pair (.lst (.pair (.int .i64) (.pair (.int .i64) (.lst (.pair (.int .i32) (.pair (.int .i64) (.pair (.int .i64) (.int .i64)))))))) (.pair (.int .i64) (.pair (.int .i64) (.pair .bool (.pair .str (.int .i64))))))))⟩,⟨false,(.int .i64)⟩],false,F_delta_Read⟩
def c_batonref09_Same:Ct:=⟨[⟨false,(.lst (.pair (.int .i32) (.pair (.int .i64) (.pair (.int .i64) (.int .i64)))))⟩,⟨false,(.lst (.pair (.int .i32) (.pair (.int .i64) (.pair (.int .i64) (.int .i64)))))⟩],[⟨false,.bool⟩],true,F_batonref09_Same⟩
def c_batonref10_Same:Ct:=⟨[⟨true,(.pair (.int .i64) (.pair (.int .i64) (.lst (.pair (.int .i32) (.pair (.int .i64) (.pair (.int .i64) (.int .i64)))))))⟩,⟨true,(.pair (.int .i64) (.pair (.int .i64) (.lst (.pair (.int .i32) (.pair (.int .i64) (.pair (.int .i64) (.int .i64)))))))⟩],[⟨false,.bool⟩],true,F_batonref10_Same⟩
def c_batonref16_Same:Ct:=⟨[⟨true,(.pair (.int .i64) (.pair (.int .i64) (.pair (.lst (.pair (.int .i32) (.pair (.int .i64) (.pair (.int .i64) (.int .i64))))) (.pair (.int .i64) (.pair (.int .i64) (.pair .bool (.pair .str (.int .i64))))))))⟩,⟨true,(.pair (.int .i64) (.pair (.int .i64) (.pair (.lst (.pair (.int .i32) (.pair (.int .i64) (.pair (.int .i64) (.int .i64))))) (.pair (.int .i64) (.pair (.int .i64) (.pair .bool (.pair .str (.int .i64))))))))⟩],[⟨false,.bool⟩],true,F_batonref16_Same⟩
def c_slices_Equal_api_Cell_api_Cell:Ct:=⟨[⟨false,(.lst (.pair (.int .i32) (.pair (.int .i64) (.pair (.int .i64) (.int .i64)))))⟩,⟨false,(.lst (.pair (.int .i32) (.pair (.int .i64) (.pair (.int .i64) (.int .i64)))))⟩],[⟨false,.bool⟩],true,F_slices_Equal_api_Cell_api_Cell⟩
def c_grid_Same:Ct:=⟨[⟨true,(.pair (.int .i64) (.pair (.int .i64) (.lst (.pair (.int .i32) (.pair (.int .i64) (.pair (.int .i64) (.int .i64)))))))⟩,⟨true,(.pair (.int .i64) (.pair (.int .i64) (.lst (.pair (.int .i32) (.pair (.int .i64) (.pair (.int .i64) (.int .i64)))))))⟩],[⟨false,.bool⟩],true,F_grid_Same⟩
def c_paint_Same:Ct:=⟨[⟨true,(.pair (.int .i64) (.pair (.int .i64) (.pair (.lst (.pair (.int .i32) (.pair (.int .i64) (.pair (.int .i64) (.int .i64))))) (.pair (.int .i64) (.pair (.int .i64) (.pair .bool (.pair .str (.int .i64))))))))⟩,⟨true,(.pair (.int .i64) (.pair (.int .i64) (.pair (.lst (.pair (.int .i32) (.pair (.int .i64) (.pair (.int .i64) (.int .i64))))) (.pair (.int .i64) (.pair (.int .i64) (.pair .bool (.pair .str (.int .i64))))))))⟩],[⟨false,.bool⟩],true,F_paint_Same⟩
def c_batonlaw18_DeltaBack:Ct:=⟨[⟨true,(.pair (.int .i64) (.pair (.int .i64) (.pair (.lst (.pair (.int .i32) (.pair (.int .i64) (.pair (.int .i64) (.int .i64))))) (.pair (.int .i64) (.pair (.int .i64) (.pair .bool (.pair .str (.int .i64))))))))⟩,⟨true,(.pair (.int .i64) (.pair (.int .i64) (.pair (.lst (.pair (.int .i32) (.pair (.int .i64) (.pair (.int .i64) (.int .i64))))) (.pair (.int .i64) (.pair (.int .i64) (.pair .bool (.pair .str (.int .i64))))))))⟩],[⟨false,.bool⟩],true,F_batonlaw18_DeltaBack⟩
def t_grid_size:List (Nat×Ct):=[]
def u_grid_size:List (Nat×OC):=[]
def v_grid_size:List (Nat×AFn):=[]
theorem ok_grid_size:CtOk prog opn 170 c_grid_size:=theC_ok (cs:=t_grid_size) (os:=u_grid_size) (fns:=v_grid_size) (trivial) (trivial) (trivial) (af:=A_grid_size) rfl (by decide) (fun x=>show theC opn t_grid_size u_grid_size v_grid_size A_grid_size c_grid_size.args c_grid_size.res c_grid_size.fresh x=F_grid_size x by kernel_rfl)
def t_cell_Pen:List (Nat×Ct):=[]
def u_cell_Pen:List (Nat×OC):=[]
def v_cell_Pen:List (Nat×AFn):=[]
theorem ok_cell_Pen:CtOk prog opn 177 c_cell_Pen:=theC_ok (cs:=t_cell_Pen) (os:=u_cell_Pen) (fns:=v_cell_Pen) (trivial) (trivial) (trivial) (af:=A_cell_Pen) rfl (by decide) (fun x=>show theC opn t_cell_Pen u_cell_Pen v_cell_Pen A_cell_Pen c_cell_Pen.args c_cell_Pen.res c_cell_Pen.fresh x=F_cell_Pen x by kernel_rfl)
def t_runes_Bytes:List (Nat×Ct):=[]
def u_runes_Bytes:List (Nat×OC):=[]
def v_runes_Bytes:List (Nat×AFn):=[]
theorem ok_runes_Bytes:CtOk prog opn 178 c_runes_Bytes:=theC_ok (cs:=t_runes_Bytes) (os:=u_runes_Bytes) (fns:=v_runes_Bytes) (trivial) (trivial) (trivial) (af:=A_runes_Bytes) rfl (by decide) (fun x=>show theC opn t_runes_Bytes u_runes_Bytes v_runes_Bytes A_runes_Bytes c_runes_Bytes.args c_runes_Bytes.res c_runes_Bytes.fresh x=F_runes_Bytes x by kernel_rfl)
def t_cell_Right:List (Nat×Ct):=[(178,c_runes_Bytes),(177,c_cell_Pen)]
def u_cell_Right:List (Nat×OC):=[]
def v_cell_Right:List (Nat×AFn):=[]
theorem ok_cell_Right:CtOk prog opn 137 c_cell_Right:=theC_ok (cs:=t_cell_Right) (os:=u_cell_Right) (fns:=v_cell_Right) (⟨ok_runes_Bytes,⟨ok_cell_Pen,trivial⟩⟩) (trivial) (trivial) (af:=A_cell_Right) rfl (by decide) (fun x=>show theC opn t_cell_Right u_cell_Right v_cell_Right A_cell_Right c_cell_Right.args c_cell_Right.res c_cell_Right.fresh x=F_cell_Right x by kernel_rfl)
def t_grid_Right:List (Nat×Ct):=[(137,c_cell_Right),(170,c_grid_size)]
def u_grid_Right:List (Nat×OC):=[]
def v_grid_Right:List (Nat×AFn):=[]
theorem ok_grid_Right:CtOk prog opn 129 c_grid_Right:=theC_ok (cs:=t_grid_Right) (os:=u_grid_Right) (fns:=v_grid_Right) (⟨ok_cell_Right,⟨ok_grid_size,trivial⟩⟩) (trivial) (trivial) (af:=A_grid_Right) rfl (by decide) (fun x=>show theC opn t_grid_Right u_grid_Right v_grid_Right A_grid_Right c_grid_Right.args c_grid_Right.res c_grid_Right.fresh x=F_grid_Right x by kernel_rfl)
def t_runes_broken:List (Nat×Ct):=[]
def u_runes_broken:List (Nat×OC):=[]
def v_runes_broken:List (Nat×AFn):=[]
theorem ok_runes_broken:CtOk prog opn 184 c_runes_broken:=theC_ok (cs:=t_runes_broken) (os:=u_runes_broken) (fns:=v_runes_broken) (trivial) (trivial) (trivial) (af:=A_runes_broken) rfl (by decide) (fun x=>show theC opn t_runes_broken u_runes_broken v_runes_broken A_runes_broken c_runes_broken.args c_runes_broken.res c_runes_broken.fresh x=F_runes_broken x by kernel_rfl)
def t_runes_Valid:List (Nat×Ct):=[(178,c_runes_Bytes),(184,c_runes_broken)]
def u_runes_Valid:List (Nat×OC):=[]
def v_runes_Valid:List (Nat×AFn):=[]
theorem ok_runes_Valid:CtOk prog opn 171 c_runes_Valid:=theC_ok (cs:=t_runes_Valid) (os:=u_runes_Valid) (fns:=v_runes_Valid) (⟨ok_runes_Bytes,⟨ok_runes_broken,trivial⟩⟩) (trivial) (trivial) (af:=A_runes_Valid) rfl (by decide) (fun x=>show theC opn t_runes_Valid u_runes_Valid v_runes_Valid A_runes_Valid c_runes_Valid.args c_runes_Valid.res c_runes_Valid.fresh x=F_runes_Valid x by kernel_rfl)
def t_seqs_told:List (Nat×Ct):=[]
def u_seqs_told:List (Nat×OC):=[]
def v_seqs_told:List (Nat×AFn):=[]
theorem ok_seqs_told:CtOk prog opn 185 c_seqs_told:=theC_ok (cs:=t_seqs_told) (os:=u_seqs_told) (fns:=v_seqs_told) (trivial) (trivial) (trivial) (af:=A_seqs_told) rfl (by decide) (fun x=>show theC opn t_seqs_told u_seqs_told v_seqs_told A_seqs_told c_seqs_told.args c_seqs_told.res c_seqs_told.fresh x=F_seqs_told x by kernel_rfl)
def t_seqs_intermediate:List (Nat×Ct):=[]
def u_seqs_intermediate:List (Nat×OC):=[]
def v_seqs_intermediate:List (Nat×AFn):=[]
theorem ok_seqs_intermediate:CtOk prog opn 186 c_seqs_intermediate:=theC_ok (cs:=t_seqs_intermediate) (os:=u_seqs_intermediate) (fns:=v_seqs_intermediate) (trivial) (trivial) (trivial) (af:=A_seqs_intermediate) rfl (by decide) (fun x=>show theC opn t_seqs_intermediate u_seqs_intermediate v_seqs_intermediate A_seqs_intermediate c_seqs_intermediate.args c_seqs_intermediate.res c_seqs_intermediate.fresh x=F_seqs_intermediate x by kernel_rfl)
def t_seqs_begins:List (Nat×Ct):=[]
def u_seqs_begins:List (Nat×OC):=[]
def v_seqs_begins:List (Nat×AFn):=[]
theorem ok_seqs_begins:CtOk prog opn 187 c_seqs_begins:=theC_ok (cs:=t_seqs_begins) (os:=u_seqs_begins) (fns:=v_seqs_begins) (trivial) (trivial) (trivial) (af:=A_seqs_begins) rfl (by decide) (fun x=>show theC opn t_seqs_begins u_seqs_begins v_seqs_begins A_seqs_begins c_seqs_begins.args c_seqs_begins.res c_seqs_begins.fresh x=F_seqs_begins x by kernel_rfl)
def t_seqs_numbers:List (Nat×Ct):=[]
def u_seqs_numbers:List (Nat×OC):=[]
def v_seqs_numbers:List (Nat×AFn):=[]
theorem ok_seqs_numbers:CtOk prog opn 188 c_seqs_numbers:=theC_ok (cs:=t_seqs_numbers) (os:=u_seqs_numbers) (fns:=v_seqs_numbers) (trivial) (trivial) (trivial) (af:=A_seqs_numbers) rfl (by decide) (fun x=>show theC opn t_seqs_numbers u_seqs_numbers v_seqs_numbers A_seqs_numbers c_seqs_numbers.args c_seqs_numbers.res c_seqs_numbers.fresh x=F_seqs_numbers x by kernel_rfl)
def t_seqs_line:List (Nat×Ct):=[]
def u_seqs_line:List (Nat×OC):=[]
def v_seqs_line:List (Nat×AFn):=[]
theorem ok_seqs_line:CtOk prog opn 189 c_seqs_line:=theC_ok (cs:=t_seqs_line) (os:=u_seqs_line) (fns:=v_seqs_line) (trivial) (trivial) (trivial) (af:=A_seqs_line) rfl (by decide) (fun x=>show theC opn t_seqs_line u_seqs_line v_seqs_line A_seqs_line c_seqs_line.args c_seqs_line.res c_seqs_line.fresh x=F_seqs_line x by kernel_rfl)
def t_seqs_Right:List (Nat×Ct):=[(189,c_seqs_line),(188,c_seqs_numbers),(187,c_seqs_begins),(186,c_seqs_intermediate),(178,c_runes_Bytes),(185,c_seqs_told)]
def u_seqs_Right:List (Nat×OC):=[]
def v_seqs_Right:List (Nat×AFn):=[]
theorem ok_seqs_Right:CtOk prog opn 172 c_seqs_Right:=theC_ok (cs:=t_seqs_Right) (os:=u_seqs_Right) (fns:=v_seqs_Right) (⟨ok_seqs_line,⟨ok_seqs_numbers,⟨ok_seqs_begins,⟨ok_seqs_intermediate,⟨ok_runes_Bytes,⟨ok_seqs_told,trivial⟩⟩⟩⟩⟩⟩) (trivial) (trivial) (af:=A_seqs_Right) rfl (by decide) (fun x=>show theC opn t_seqs_Right u_seqs_Right v_seqs_Right A_seqs_Right c_seqs_Right.args c_seqs_Right.res c_seqs_Right.fresh x=F_seqs_Right x by kernel_rfl)
def t_paint_title:List (Nat×Ct):=[(172,c_seqs_Right),(171,c_runes_Valid)]
def u_paint_title:List (Nat×OC):=[]
def v_paint_title:List (Nat×AFn):=[]
theorem ok_paint_title:CtOk prog opn 130 c_paint_title:=theC_ok (cs:=t_paint_title) (os:=u_paint_title) (fns:=v_paint_title) (⟨ok_seqs_Right,⟨ok_runes_Valid,trivial⟩⟩) (trivial) (trivial) (af:=A_paint_title) rfl (by decide) (fun x=>show theC opn t_paint_title u_paint_title v_paint_title A_paint_title c_paint_title.args c_paint_title.res c_paint_title.fresh x=F_paint_title x by kernel_rfl)
def t_paint_Right:List (Nat×Ct):=[(130,c_paint_title),(129,c_grid_Right)]
def u_paint_Right:List (Nat×OC):=[]
def v_paint_Right:List (Nat×AFn):=[]
theorem ok_paint_Right:CtOk prog opn 65 c_paint_Right:=theC_ok (cs:=t_paint_Right) (os:=u_paint_Right) (fns:=v_paint_Right) (⟨ok_paint_title,⟨ok_grid_Right,trivial⟩⟩) (trivial) (trivial) (af:=A_paint_Right) rfl (by decide) (fun x=>show theC opn t_paint_Right u_paint_Right v_paint_Right A_paint_Right c_paint_Right.args c_paint_Right.res c_paint_Right.fresh x=F_paint_Right x by kernel_rfl)
def t_slices_Clone_api_Cell_api_Cell:List (Nat×Ct):=[]
def u_slices_Clone_api_Cell_api_Cell:List (Nat×OC):=[]
def v_slices_Clone_api_Cell_api_Cell:List (Nat×AFn):=[]
theorem ok_slices_Clone_api_Cell_api_Cell:OCtOk prog opn 131 c_slices_Clone_api_Cell_api_Cell:=theO_ok (cs:=t_slices_Clone_api_Cell_api_Cell) (os:=u_slices_Clone_api_Cell_api_Cell) (fns:=v_slices_Clone_api_Cell_api_Cell) (trivial) (trivial) (trivial) (af:=A_slices_Clone_api_Cell_api_Cell) rfl (fun x=>show theO opn t_slices_Clone_api_Cell_api_Cell u_slices_Clone_api_Cell_api_Cell v_slices_Clone_api_Cell_api_Cell A_slices_Clone_api_Cell_api_Cell c_slices_Clone_api_Cell_api_Cell x=O_slices_Clone_api_Cell_api_Cell x by kernel_rfl)
def t_cell_Blank:List (Nat×Ct):=[]
def u_cell_Blank:List (Nat×OC):=[]
def v_cell_Blank:List (Nat×AFn):=[]
theorem ok_cell_Blank:CtOk prog opn 190 c_cell_Blank:=theC_ok (cs:=t_cell_Blank) (os:=u_cell_Blank) (fns:=v_cell_Blank) (trivial) (trivial) (trivial) (af:=A_cell_Blank) rfl (by decide) (fun x=>show theC opn t_cell_Blank u_cell_Blank v_cell_Blank A_cell_Blank c_cell_Blank.args c_cell_Blank.res c_cell_Blank.fresh x=F_cell_Blank x by kernel_rfl)
def t_grid_blanks:List (Nat×Ct):=[(190,c_cell_Blank)]
def u_grid_blanks:List (Nat×OC):=[]
def v_grid_blanks:List (Nat×AFn):=[]
theorem ok_grid_blanks:OCtOk prog opn 175 c_grid_blanks:=theO_ok (cs:=t_grid_blanks) (os:=u_grid_blanks) (fns:=v_grid_blanks) (⟨ok_cell_Blank,trivial⟩) (trivial) (trivial) (af:=A_grid_blanks) rfl (fun x=>show theO opn t_grid_blanks u_grid_blanks v_grid_blanks A_grid_blanks c_grid_blanks x=O_grid_blanks x by kernel_rfl)
def t_grid_New:List (Nat×Ct):=[(170,c_grid_size)]
def u_grid_New:List (Nat×OC):=[(175,c_grid_blanks)]
def v_grid_New:List (Nat×AFn):=[]
theorem ok_grid_New:OCtOk prog opn 133 c_grid_New:=theO_ok (cs:=t_grid_New) (os:=u_grid_New) (fns:=v_grid_New) (⟨ok_grid_size,trivial⟩) (⟨ok_grid_blanks,trivial⟩) (trivial) (af:=A_grid_New) rfl (fun x=>show theO opn t_grid_New u_grid_New v_grid_New A_grid_New c_grid_New x=O_grid_New x by kernel_rfl)
def t_grid_Board_Grid:List (Nat×Ct):=[]
def u_grid_Board_Grid:List (Nat×OC):=[(131,c_slices_Clone_api_Cell_api_Cell)]
def v_grid_Board_Grid:List (Nat×AFn):=[]
theorem ok_grid_Board_Grid:OCtOk prog opn 134 c_grid_Board_Grid:=theO_ok (cs:=t_grid_Board_Grid) (os:=u_grid_Board_Grid) (fns:=v_grid_Board_Grid) (trivial) (⟨ok_slices_Clone_api_Cell_api_Cell,trivial⟩) (trivial) (af:=A_grid_Board_Grid) rfl (fun x=>show theO opn t_grid_Board_Grid u_grid_Board_Grid v_grid_Board_Grid A_grid_Board_Grid c_grid_Board_Grid x=O_grid_Board_Grid x by kernel_rfl)
def t_delta_fresh:List (Nat×Ct):=[]
def u_delta_fresh:List (Nat×OC):=[(134,c_grid_Board_Grid),(133,c_grid_New)]
def v_delta_fresh:List (Nat×AFn):=[]
theorem ok_delta_fresh:OCtOk prog opn 72 c_delta_fresh:=theO_ok (cs:=t_delta_fresh) (os:=u_delta_fresh) (fns:=v_delta_fresh) (trivial) (⟨ok_grid_Board_Grid,⟨ok_grid_New,trivial⟩⟩) (trivial) (af:=A_delta_fresh) rfl (fun x=>show theO opn t_delta_fresh u_delta_fresh v_delta_fresh A_delta_fresh c_delta_fresh x=O_delta_fresh x by kernel_rfl)
def t_delta_base:List (Nat×Ct):=[]
def u_delta_base:List (Nat×OC):=[(72,c_delta_fresh),(131,c_slices_Clone_api_Cell_api_Cell)]
def v_delta_base:List (Nat×AFn):=[]
theorem ok_delta_base:OCtOk prog opn 66 c_delta_base:=theO_ok (cs:=t_delta_base) (os:=u_delta_base) (fns:=v_delta_base) (trivial) (⟨ok_delta_fresh,⟨ok_slices_Clone_api_Cell_api_Cell,trivial⟩⟩) (trivial) (af:=A_delta_base) rfl (fun x=>show theO opn t_delta_base u_delta_base v_delta_base A_delta_base c_delta_base x=O_delta_base x by kernel_rfl)
def t_delta_spans:List (Nat×Ct):=[]
def u_delta_spans:List (Nat×OC):=[]
def v_delta_spans:List (Nat×AFn):=[]
theorem ok_delta_spans:CtOk prog opn 67 c_delta_spans:=theC_ok (cs:=t_delta_spans) (os:=u_delta_spans) (fns:=v_delta_spans) (trivial) (trivial) (trivial) (af:=A_delta_spans) rfl (by decide) (fun x=>show theC opn t_delta_spans u_delta_spans v_delta_spans A_delta_spans c_delta_spans.args c_delta_spans.res c_delta_spans.fresh x=F_delta_spans x by kernel_rfl)
def t_delta_Of:List (Nat×Ct):=[(67,c_delta_spans),(65,c_paint_Right)]
def u_delta_Of:List (Nat×OC):=[(66,c_delta_base)]
def v_delta_Of:List (Nat×AFn):=[]
theorem ok_delta_Of:CtOk prog opn 25 c_delta_Of:=theC_ok (cs:=t_delta_Of) (os:=u_delta_Of) (fns:=v_delta_Of) (⟨ok_delta_spans,⟨ok_paint_Right,trivial⟩⟩) (⟨ok_delta_base,trivial⟩) (trivial) (af:=A_delta_Of) rfl (by decide) (fun x=>show theC opn t_delta_Of u_delta_Of v_delta_Of A_delta_Of c_delta_Of.args c_delta_Of.res c_delta_Of.fresh x=F_delta_Of x by kernel_rfl)
def t_delta_Count:List (Nat×Ct):=[]
def u_delta_Count:List (Nat×OC):=[]
def v_delta_Count:List (Nat×AFn):=[]
theorem ok_delta_Count:CtOk prog opn 31 c_delta_Count:=theC_ok (cs:=t_delta_Count) (os:=u_delta_Count) (fns:=v_delta_Count) (trivial) (trivial) (trivial) (af:=A_delta_Count) rfl (by decide) (fun x=>show theC opn t_delta_Count u_delta_Count v_delta_Count A_delta_Count c_delta_Count.args c_delta_Count.res c_delta_Count.fresh x=F_delta_Count x by kernel_rfl)
theorem ok_batonlaw18_awake:CtOk prog opn 23 c_batonlaw18_awake:=evalCt 300 (by decide +kernel)
def t_batonlaw17_Few:List (Nat×Ct):=[]
def u_batonlaw17_Few:List (Nat×OC):=[]
def v_batonlaw17_Few:List (Nat×AFn):=[]
theorem ok_batonlaw17_Few:CtOk prog opn 24 c_batonlaw17_Few:=theC_ok (cs:=t_batonlaw17_Few) (os:=u_batonlaw17_Few) (fns:=v_batonlaw17_Few) (trivial) (trivial) (trivial) (af:=A_batonlaw17_Few) rfl (by decide) (fun x=>show theC opn t_batonlaw17_Few u_batonlaw17_Few v_batonlaw17_Few A_batonlaw17_Few c_batonlaw17_Few.args c_batonlaw17_Few.res c_batonlaw17_Few.fresh x=F_batonlaw17_Few x by kernel_rfl)
def t_batonref10_Size:List (Nat×Ct):=[]
def u_batonref10_Size:List (Nat×OC):=[]
def v_batonref10_Size:List (Nat×AFn):=[]
theorem ok_batonref10_Size:CtOk prog opn 33 c_batonref10_Size:=theC_ok (cs:=t_batonref10_Size) (os:=u_batonref10_Size) (fns:=v_batonref10_Size) (trivial) (trivial) (trivial) (af:=A_batonref10_Size) rfl (by decide) (fun x=>show theC opn t_batonref10_Size u_batonref10_Size v_batonref10_Size A_batonref10_Size c_batonref10_Size.args c_batonref10_Size.res c_batonref10_Size.fresh x=F_batonref10_Size x by kernel_rfl)
def t_batonref08_Sign:List (Nat×Ct):=[]
def u_batonref08_Sign:List (Nat×OC):=[]
def v_batonref08_Sign:List (Nat×AFn):=[]
theorem ok_batonref08_Sign:CtOk prog opn 139 c_batonref08_Sign:=theC_ok (cs:=t_batonref08_Sign) (os:=u_batonref08_Sign) (fns:=v_batonref08_Sign) (trivial) (trivial) (trivial) (af:=A_batonref08_Sign) rfl (by decide) (fun x=>show theC opn t_batonref08_Sign u_batonref08_Sign v_batonref08_Sign A_batonref08_Sign c_batonref08_Sign.args c_batonref08_Sign.res c_batonref08_Sign.fresh x=F_batonref08_Sign x by kernel_rfl)
def t_batonref09_Right:List (Nat×Ct):=[(139,c_batonref08_Sign)]
def u_batonref09_Right:List (Nat×OC):=[]
def v_batonref09_Right:List (Nat×AFn):=[]
theorem ok_batonref09_Right:CtOk prog opn 77 c_batonref09_Right:=theC_ok (cs:=t_batonref09_Right) (os:=u_batonref09_Right) (fns:=v_batonref09_Right) (⟨ok_batonref08_Sign,trivial⟩) (trivial) (trivial) (af:=A_batonref09_Right) rfl (by decide) (fun x=>show theC opn t_batonref09_Right u_batonref09_Right v_batonref09_Right A_batonref09_Right c_batonref09_Right.args c_batonref09_Right.res c_batonref09_Right.fresh x=F_batonref09_Right x by kernel_rfl)
def t_batonref10_Right:List (Nat×Ct):=[(77,c_batonref09_Right),(33,c_batonref10_Size)]
def u_batonref10_Right:List (Nat×OC):=[]
def v_batonref10_Right:List (Nat×AFn):=[]
theorem ok_batonref10_Right:CtOk prog opn 68 c_batonref10_Right:=theC_ok (cs:=t_batonref10_Right) (os:=u_batonref10_Right) (fns:=v_batonref10_Right) (⟨ok_batonref09_Right,⟨ok_batonref10_Size,trivial⟩⟩) (trivial) (trivial) (af:=A_batonref10_Right) rfl (by decide) (fun x=>show theC opn t_batonref10_Right u_batonref10_Right v_batonref10_Right A_batonref10_Right c_batonref10_Right.args c_batonref10_Right.res c_batonref10_Right.fresh x=F_batonref10_Right x by kernel_rfl)
def t_batonref10_There:List (Nat×Ct):=[]
def u_batonref10_There:List (Nat×OC):=[]
def v_batonref10_There:List (Nat×AFn):=[]
theorem ok_batonref10_There:CtOk prog opn 69 c_batonref10_There:=theC_ok (cs:=t_batonref10_There) (os:=u_batonref10_There) (fns:=v_batonref10_There) (trivial) (trivial) (trivial) (af:=A_batonref10_There) rfl (by decide) (fun x=>show theC opn t_batonref10_There u_batonref10_There v_batonref10_There A_batonref10_There c_batonref10_There.args c_batonref10_There.res c_batonref10_There.fresh x=F_batonref10_There x by kernel_rfl)
def t_batonref08_Bytes:List (Nat×Ct):=[(139,c_batonref08_Sign)]
def u_batonref08_Bytes:List (Nat×OC):=[]
def v_batonref08_Bytes:List (Nat×AFn):=[]
theorem ok_batonref08_Bytes:CtOk prog opn 174 c_batonref08_Bytes:=theC_ok (cs:=t_batonref08_Bytes) (os:=u_batonref08_Bytes) (fns:=v_batonref08_Bytes) (⟨ok_batonref08_Sign,trivial⟩) (trivial) (trivial) (af:=A_batonref08_Bytes) rfl (by decide) (fun x=>show theC opn t_batonref08_Bytes u_batonref08_Bytes v_batonref08_Bytes A_batonref08_Bytes c_batonref08_Bytes.args c_batonref08_Bytes.res c_batonref08_Bytes.fresh x=F_batonref08_Bytes x by kernel_rfl)
def t_batonref08_same:List (Nat×Ct):=[]
def u_batonref08_same:List (Nat×OC):=[]
def v_batonref08_same:List (Nat×AFn):=[]
theorem ok_batonref08_same:CtOk prog opn 173 c_batonref08_same:=theC_ok (cs:=t_batonref08_same) (os:=u_batonref08_same) (fns:=v_batonref08_same) (trivial) (trivial) (trivial) (af:=A_batonref08_same) rfl (by decide) (fun x=>show theC opn t_batonref08_same u_batonref08_same v_batonref08_same A_batonref08_same c_batonref08_same.args c_batonref08_same.res c_batonref08_same.fresh x=F_batonref08_same x by kernel_rfl)
def t_batonref08_Whole:List (Nat×Ct):=[(173,c_batonref08_same),(174,c_batonref08_Bytes),(139,c_batonref08_Sign)]
def u_batonref08_Whole:List (Nat×OC):=[]
def v_batonref08_Whole:List (Nat×AFn):=[]
theorem ok_batonref08_Whole:CtOk prog opn 132 c_batonref08_Whole:=theC_ok (cs:=t_batonref08_Whole) (os:=u_batonref08_Whole) (fns:=v_batonref08_Whole) (⟨ok_batonref08_same,⟨ok_batonref08_Bytes,⟨ok_batonref08_Sign,trivial⟩⟩⟩) (trivial) (trivial) (af:=A_batonref08_Whole) rfl (by decide) (fun x=>show theC opn t_batonref08_Whole u_batonref08_Whole v_batonref08_Whole A_batonref08_Whole c_batonref08_Whole.args c_batonref08_Whole.res c_batonref08_Whole.fresh x=F_batonref08_Whole x by kernel_rfl)
def t_batonref08_Valid:List (Nat×Ct):=[(132,c_batonref08_Whole)]
def u_batonref08_Valid:List (Nat×OC):=[]
def v_batonref08_Valid:List (Nat×AFn):=[]
theorem ok_batonref08_Valid:CtOk prog opn 70 c_batonref08_Valid:=theC_ok (cs:=t_batonref08_Valid) (os:=u_batonref08_Valid) (fns:=v_batonref08_Valid) (⟨ok_batonref08_Whole,trivial⟩) (trivial) (trivial) (af:=A_batonref08_Valid) rfl (by decide) (fun x=>show theC opn t_batonref08_Valid u_batonref08_Valid v_batonref08_Valid A_batonref08_Valid c_batonref08_Valid.args c_batonref08_Valid.res c_batonref08_Valid.fresh x=F_batonref08_Valid x by kernel_rfl)
def t_batonref17_Right:List (Nat×Ct):=[(70,c_batonref08_Valid),(69,c_batonref10_There),(68,c_batonref10_Right)]
def u_batonref17_Right:List (Nat×OC):=[]
def v_batonref17_Right:List (Nat×AFn):=[]
theorem ok_batonref17_Right:CtOk prog opn 26 c_batonref17_Right:=theC_ok (cs:=t_batonref17_Right) (os:=u_batonref17_Right) (fns:=v_batonref17_Right) (⟨ok_batonref08_Valid,⟨ok_batonref10_There,⟨ok_batonref10_Right,trivial⟩⟩⟩) (trivial) (trivial) (af:=A_batonref17_Right) rfl (by decide) (fun x=>show theC opn t_batonref17_Right u_batonref17_Right v_batonref17_Right A_batonref17_Right c_batonref17_Right.args c_batonref17_Right.res c_batonref17_Right.fresh x=F_batonref17_Right x by kernel_rfl)
def t_delta_Delta_image:List (Nat×Ct):=[]
def u_delta_Delta_image:List (Nat×OC):=[]
def v_delta_Delta_image:List (Nat×AFn):=[]
theorem ok_delta_Delta_image:OCtOk prog opn 73 c_delta_Delta_image:=theO_ok (cs:=t_delta_Delta_image) (os:=u_delta_Delta_image) (fns:=v_delta_Delta_image) (trivial) (trivial) (trivial) (af:=A_delta_Delta_image) rfl (fun x=>show theO opn t_delta_Delta_image u_delta_Delta_image v_delta_Delta_image A_delta_Delta_image c_delta_Delta_image x=O_delta_Delta_image x by kernel_rfl)
def t_delta_Delta_within_1:List (Nat×Ct):=[(137,c_cell_Right)]
def u_delta_Delta_within_1:List (Nat×OC):=[]
def v_delta_Delta_within_1:List (Nat×AFn):=[]
theorem ok_delta_Delta_within_1:CtOk prog opn 136 c_delta_Delta_within_1:=theC_ok (cs:=t_delta_Delta_within_1) (os:=u_delta_Delta_within_1) (fns:=v_delta_Delta_within_1) (⟨ok_cell_Right,trivial⟩) (trivial) (trivial) (af:=A_delta_Delta_within_1) rfl (by decide) (fun x=>show theC opn t_delta_Delta_within_1 u_delta_Delta_within_1 v_delta_Delta_within_1 A_delta_Delta_within_1 c_delta_Delta_within_1.args c_delta_Delta_within_1.res c_delta_Delta_within_1.fresh x=F_delta_Delta_within_1 x by kernel_rfl)
def t_delta_Delta_within:List (Nat×Ct):=[(136,c_delta_Delta_within_1)]
def u_delta_Delta_within:List (Nat×OC):=[]
def v_delta_Delta_within:List (Nat×AFn):=[(176,I_slices_IndexFunc_api_Cell_api_Cell),(135,I_slices_ContainsFunc_api_Cell_api_Cell)]
theorem ok_delta_Delta_within:CtOk prog opn 74 c_delta_Delta_within:=theC_ok (cs:=t_delta_Delta_within) (os:=u_delta_Delta_within) (fns:=v_delta_Delta_within) (⟨ok_delta_Delta_within_1,trivial⟩) (trivial) (⟨rfl,⟨rfl,trivial⟩⟩) (af:=A_delta_Delta_within) rfl (by decide) (fun x=>show theC opn t_delta_Delta_within u_delta_Delta_within v_delta_Delta_within A_delta_Delta_within c_delta_Delta_within.args c_delta_Delta_within.res c_delta_Delta_within.fresh x=F_delta_Delta_within x by kernel_rfl)
def t_delta_Right:List (Nat×Ct):=[(74,c_delta_Delta_within),(65,c_paint_Right)]
def u_delta_Right:List (Nat×OC):=[(73,c_delta_Delta_image),(72,c_delta_fresh)]
def v_delta_Right:List (Nat×AFn):=[]
theorem ok_delta_Right:CtOk prog opn 28 c_delta_Right:=theC_ok (cs:=t_delta_Right) (os:=u_delta_Right) (fns:=v_delta_Right) (⟨ok_delta_Delta_within,⟨ok_paint_Right,trivial⟩⟩) (⟨ok_delta_Delta_image,⟨ok_delta_fresh,trivial⟩⟩) (trivial) (af:=A_delta_Right) rfl (by decide) (fun x=>show theC opn t_delta_Right u_delta_Right v_delta_Right A_delta_Right c_delta_Right.args c_delta_Right.res c_delta_Right.fresh x=F_delta_Right x by kernel_rfl)
def t_delta_Apply:List (Nat×Ct):=[(28,c_delta_Right),(65,c_paint_Right)]
def u_delta_Apply:List (Nat×OC):=[(73,c_delta_Delta_image),(66,c_delta_base)]
def v_delta_Apply:List (Nat×AFn):=[]
theorem ok_delta_Apply:CtOk prog opn 35 c_delta_Apply:=theC_ok (cs:=t_delta_Apply) (os:=u_delta_Apply) (fns:=v_delta_Apply) (⟨ok_delta_Right,⟨ok_paint_Right,trivial⟩⟩) (⟨ok_delta_Delta_image,⟨ok_delta_base,trivial⟩⟩) (trivial) (af:=A_delta_Apply) rfl (by decide) (fun x=>show theC opn t_delta_Apply u_delta_Apply v_delta_Apply A_delta_Apply c_delta_Apply.args c_delta_Apply.res c_delta_Apply.fresh x=F_delta_Apply x by kernel_rfl)
def t_codec_NewWriter:List (Nat×Ct):=[]
def u_codec_NewWriter:List (Nat×OC):=[]
def v_codec_NewWriter:List (Nat×AFn):=[]
theorem ok_codec_NewWriter:OCtOk prog opn 110 c_codec_NewWriter:=theO_ok (cs:=t_codec_NewWriter) (os:=u_codec_NewWriter) (fns:=v_codec_NewWriter) (trivial) (trivial) (trivial) (af:=A_codec_NewWriter) rfl (fun x=>show theO opn t_codec_NewWriter u_codec_NewWriter v_codec_NewWriter A_codec_NewWriter c_codec_NewWriter x=O_codec_NewWriter x by kernel_rfl)
def t_codec_Writer_Fail:List (Nat×Ct):=[]
def u_codec_Writer_Fail:List (Nat×OC):=[]
def v_codec_Writer_Fail:List (Nat×AFn):=[]
theorem ok_codec_Writer_Fail:OCtOk prog opn 159 c_codec_Writer_Fail:=theO_ok (cs:=t_codec_Writer_Fail) (os:=u_codec_Writer_Fail) (fns:=v_codec_Writer_Fail) (trivial) (trivial) (trivial) (af:=A_codec_Writer_Fail) rfl (fun x=>show theO opn t_codec_Writer_Fail u_codec_Writer_Fail v_codec_Writer_Fail A_codec_Writer_Fail c_codec_Writer_Fail x=O_codec_Writer_Fail x by kernel_rfl)
def t_codec_Writer_add:List (Nat×Ct):=[]
def u_codec_Writer_add:List (Nat×OC):=[]
def v_codec_Writer_add:List (Nat×AFn):=[]
theorem ok_codec_Writer_add:OCtOk prog opn 160 c_codec_Writer_add:=theO_ok (cs:=t_codec_Writer_add) (os:=u_codec_Writer_add) (fns:=v_codec_Writer_add) (trivial) (trivial) (trivial) (af:=A_codec_Writer_add) rfl (fun x=>show theO opn t_codec_Writer_add u_codec_Writer_add v_codec_Writer_add A_codec_Writer_add c_codec_Writer_add x=O_codec_Writer_add x by kernel_rfl)
def t_codec_Writer_Number:List (Nat×Ct):=[]
def u_codec_Writer_Number:List (Nat×OC):=[(160,c_codec_Writer_add),(159,c_codec_Writer_Fail)]
def v_codec_Writer_Number:List (Nat×AFn):=[]
theorem ok_codec_Writer_Number:OCtOk prog opn 111 c_codec_Writer_Number:=theO_ok (cs:=t_codec_Writer_Number) (os:=u_codec_Writer_Number) (fns:=v_codec_Writer_Number) (trivial) (⟨ok_codec_Writer_add,⟨ok_codec_Writer_Fail,trivial⟩⟩) (trivial) (af:=A_codec_Writer_Number) rfl (fun x=>show theO opn t_codec_Writer_Number u_codec_Writer_Number v_codec_Writer_Number A_codec_Writer_Number c_codec_Writer_Number x=O_codec_Writer_Number x by kernel_rfl)
def t_cell_Runs:List (Nat×Ct):=[]
def u_cell_Runs:List (Nat×OC):=[]
def v_cell_Runs:List (Nat×AFn):=[]
theorem ok_cell_Runs:CtOk prog opn 161 c_cell_Runs:=theC_ok (cs:=t_cell_Runs) (os:=u_cell_Runs) (fns:=v_cell_Runs) (trivial) (trivial) (trivial) (af:=A_cell_Runs) rfl (by decide) (fun x=>show theC opn t_cell_Runs u_cell_Runs v_cell_Runs A_cell_Runs c_cell_Runs.args c_cell_Runs.res c_cell_Runs.fresh x=F_cell_Runs x by kernel_rfl)
def t_cell_Write:List (Nat×Ct):=[(161,c_cell_Runs),(137,c_cell_Right)]
def u_cell_Write:List (Nat×OC):=[(111,c_codec_Writer_Number),(159,c_codec_Writer_Fail)]
def v_cell_Write:List (Nat×AFn):=[]
theorem ok_cell_Write:OCtOk prog opn 112 c_cell_Write:=theO_ok (cs:=t_cell_Write) (os:=u_cell_Write) (fns:=v_cell_Write) (⟨ok_cell_Runs,⟨ok_cell_Right,trivial⟩⟩) (⟨ok_codec_Writer_Number,⟨ok_codec_Writer_Fail,trivial⟩⟩) (trivial) (af:=A_cell_Write) rfl (fun x=>show theO opn t_cell_Write u_cell_Write v_cell_Write A_cell_Write c_cell_Write x=O_cell_Write x by kernel_rfl)
def t_codec_Writer_Bool:List (Nat×Ct):=[]
def u_codec_Writer_Bool:List (Nat×OC):=[(160,c_codec_Writer_add)]
def v_codec_Writer_Bool:List (Nat×AFn):=[]
theorem ok_codec_Writer_Bool:OCtOk prog opn 113 c_codec_Writer_Bool:=theO_ok (cs:=t_codec_Writer_Bool) (os:=u_codec_Writer_Bool) (fns:=v_codec_Writer_Bool) (trivial) (⟨ok_codec_Writer_add,trivial⟩) (trivial) (af:=A_codec_Writer_Bool) rfl (fun x=>show theO opn t_codec_Writer_Bool u_codec_Writer_Bool v_codec_Writer_Bool A_codec_Writer_Bool c_codec_Writer_Bool x=O_codec_Writer_Bool x by kernel_rfl)
def t_codec_Writer_Text:List (Nat×Ct):=[]
def u_codec_Writer_Text:List (Nat×OC):=[(160,c_codec_Writer_add),(111,c_codec_Writer_Number)]
def v_codec_Writer_Text:List (Nat×AFn):=[]
theorem ok_codec_Writer_Text:OCtOk prog opn 114 c_codec_Writer_Text:=theO_ok (cs:=t_codec_Writer_Text) (os:=u_codec_Writer_Text) (fns:=v_codec_Writer_Text) (trivial) (⟨ok_codec_Writer_add,⟨ok_codec_Writer_Number,trivial⟩⟩) (trivial) (af:=A_codec_Writer_Text) rfl (fun x=>show theO opn t_codec_Writer_Text u_codec_Writer_Text v_codec_Writer_Text A_codec_Writer_Text c_codec_Writer_Text x=O_codec_Writer_Text x by kernel_rfl)
def t_codec_Writer_Bytes:List (Nat×Ct):=[]
def u_codec_Writer_Bytes:List (Nat×OC):=[]
def v_codec_Writer_Bytes:List (Nat×AFn):=[]
theorem ok_codec_Writer_Bytes:OCtOk prog opn 115 c_codec_Writer_Bytes:=theO_ok (cs:=t_codec_Writer_Bytes) (os:=u_codec_Writer_Bytes) (fns:=v_codec_Writer_Bytes) (trivial) (trivial) (trivial) (af:=A_codec_Writer_Bytes) rfl (fun x=>show theO opn t_codec_Writer_Bytes u_codec_Writer_Bytes v_codec_Writer_Bytes A_codec_Writer_Bytes c_codec_Writer_Bytes x=O_codec_Writer_Bytes x by kernel_rfl)
def t_delta_Bytes:List (Nat×Ct):=[(28,c_delta_Right)]
def u_delta_Bytes:List (Nat×OC):=[(115,c_codec_Writer_Bytes),(114,c_codec_Writer_Text),(113,c_codec_Writer_Bool),(112,c_cell_Write),(111,c_codec_Writer_Number),(110,c_codec_NewWriter)]
def v_delta_Bytes:List (Nat×AFn):=[]
theorem ok_delta_Bytes:CtOk prog opn 60 c_delta_Bytes:=theC_ok (cs:=t_delta_Bytes) (os:=u_delta_Bytes) (fns:=v_delta_Bytes) (⟨ok_delta_Right,trivial⟩) (⟨ok_codec_Writer_Bytes,⟨ok_codec_Writer_Text,⟨ok_codec_Writer_Bool,⟨ok_cell_Write,⟨ok_codec_Writer_Number,⟨ok_codec_NewWriter,trivial⟩⟩⟩⟩⟩⟩) (trivial) (af:=A_delta_Bytes) rfl (by decide) (fun x=>show theC opn t_delta_Bytes u_delta_Bytes v_delta_Bytes A_delta_Bytes c_delta_Bytes.args c_delta_Bytes.res c_delta_Bytes.fresh x=F_delta_Bytes x by kernel_rfl)
def t_codec_NewReader:List (Nat×Ct):=[]
def u_codec_NewReader:List (Nat×OC):=[]
def v_codec_NewReader:List (Nat×AFn):=[]
theorem ok_codec_NewReader:OCtOk prog opn 116 c_codec_NewReader:=theO_ok (cs:=t_codec_NewReader) (os:=u_codec_NewReader) (fns:=v_codec_NewReader) (trivial) (trivial) (trivial) (af:=A_codec_NewReader) rfl (fun x=>show theO opn t_codec_NewReader u_codec_NewReader v_codec_NewReader A_codec_NewReader c_codec_NewReader x=O_codec_NewReader x by kernel_rfl)
def t_codec_Reader_Fail:List (Nat×Ct):=[]
def u_codec_Reader_Fail:List (Nat×OC):=[]
def v_codec_Reader_Fail:List (Nat×AFn):=[]
theorem ok_codec_Reader_Fail:OCtOk prog opn 163 c_codec_Reader_Fail:=theO_ok (cs:=t_codec_Reader_Fail) (os:=u_codec_Reader_Fail) (fns:=v_codec_Reader_Fail) (trivial) (trivial) (trivial) (af:=A_codec_Reader_Fail) rfl (fun x=>show theO opn t_codec_Reader_Fail u_codec_Reader_Fail v_codec_Reader_Fail A_codec_Reader_Fail c_codec_Reader_Fail x=O_codec_Reader_Fail x by kernel_rfl)
def t_codec_Reader_take:List (Nat×Ct):=[]
def u_codec_Reader_take:List (Nat×OC):=[(163,c_codec_Reader_Fail)]
def v_codec_Reader_take:List (Nat×AFn):=[]
theorem ok_codec_Reader_take:OCtOk prog opn 162 c_codec_Reader_take:=theO_ok (cs:=t_codec_Reader_take) (os:=u_codec_Reader_take) (fns:=v_codec_Reader_take) (trivial) (⟨ok_codec_Reader_Fail,trivial⟩) (trivial) (af:=A_codec_Reader_take) rfl (fun x=>show theO opn t_codec_Reader_take u_codec_Reader_take v_codec_Reader_take A_codec_Reader_take c_codec_Reader_take x=O_codec_Reader_take x by kernel_rfl)
def t_codec_Reader_Number:List (Nat×Ct):=[]
def u_codec_Reader_Number:List (Nat×OC):=[(163,c_codec_Reader_Fail),(162,c_codec_Reader_take)]
def v_codec_Reader_Number:List (Nat×AFn):=[]
theorem ok_codec_Reader_Number:OCtOk prog opn 117 c_codec_Reader_Number:=theO_ok (cs:=t_codec_Reader_Number) (os:=u_codec_Reader_Number) (fns:=v_codec_Reader_Number) (trivial) (⟨ok_codec_Reader_Fail,⟨ok_codec_Reader_take,trivial⟩⟩) (trivial) (af:=A_codec_Reader_Number) rfl (fun x=>show theO opn t_codec_Reader_Number u_codec_Reader_Number v_codec_Reader_Number A_codec_Reader_Number c_codec_Reader_Number x=O_codec_Reader_Number x by kernel_rfl)
def t_codec_Reader_Err:List (Nat×Ct):=[]
def u_codec_Reader_Err:List (Nat×OC):=[]
def v_codec_Reader_Err:List (Nat×AFn):=[]
theorem ok_codec_Reader_Err:OCtOk prog opn 118 c_codec_Reader_Err:=theO_ok (cs:=t_codec_Reader_Err) (os:=u_codec_Reader_Err) (fns:=v_codec_Reader_Err) (trivial) (trivial) (trivial) (af:=A_codec_Reader_Err) rfl (fun x=>show theO opn t_codec_Reader_Err u_codec_Reader_Err v_codec_Reader_Err A_codec_Reader_Err c_codec_Reader_Err x=O_codec_Reader_Err x by kernel_rfl)
def t_cell_run:List (Nat×Ct):=[]
def u_cell_run:List (Nat×OC):=[(117,c_codec_Reader_Number)]
def v_cell_run:List (Nat×AFn):=[]
theorem ok_cell_run:OCtOk prog opn 183 c_cell_run:=theO_ok (cs:=t_cell_run) (os:=u_cell_run) (fns:=v_cell_run) (trivial) (⟨ok_codec_Reader_Number,trivial⟩) (trivial) (af:=A_cell_run) rfl (fun x=>show theO opn t_cell_run u_cell_run v_cell_run A_cell_run c_cell_run x=O_cell_run x by kernel_rfl)
def t_cell_Read:List (Nat×Ct):=[(137,c_cell_Right)]
def u_cell_Read:List (Nat×OC):=[(163,c_codec_Reader_Fail),(118,c_codec_Reader_Err),(183,c_cell_run)]
def v_cell_Read:List (Nat×AFn):=[]
theorem ok_cell_Read:OCtOk prog opn 164 c_cell_Read:=theO_ok (cs:=t_cell_Read) (os:=u_cell_Read) (fns:=v_cell_Read) (⟨ok_cell_Right,trivial⟩) (⟨ok_codec_Reader_Fail,⟨ok_codec_Reader_Err,⟨ok_cell_run,trivial⟩⟩⟩) (trivial) (af:=A_cell_Read) rfl (fun x=>show theO opn t_cell_Read u_cell_Read v_cell_Read A_cell_Read c_cell_Read x=O_cell_Read x by kernel_rfl)
def t_delta_span:List (Nat×Ct):=[]
def u_delta_span:List (Nat×OC):=[(164,c_cell_Read),(163,c_codec_Reader_Fail),(118,c_codec_Reader_Err),(117,c_codec_Reader_Number)]
def v_delta_span:List (Nat×AFn):=[]
theorem ok_delta_span:OCtOk prog opn 119 c_delta_span:=theO_ok (cs:=t_delta_span) (os:=u_delta_span) (fns:=v_delta_span) (trivial) (⟨ok_cell_Read,⟨ok_codec_Reader_Fail,⟨ok_codec_Reader_Err,⟨ok_codec_Reader_Number,trivial⟩⟩⟩⟩) (trivial) (af:=A_delta_span) rfl (fun x=>show theO opn t_delta_span u_delta_span v_delta_span A_delta_span c_delta_span x=O_delta_span x by kernel_rfl)
def t_codec_Reader_Byte:List (Nat×Ct):=[]
def u_codec_Reader_Byte:List (Nat×OC):=[(162,c_codec_Reader_take)]
def v_codec_Reader_Byte:List (Nat×AFn):=[]
theorem ok_codec_Reader_Byte:OCtOk prog opn 165 c_codec_Reader_Byte:=theO_ok (cs:=t_codec_Reader_Byte) (os:=u_codec_Reader_Byte) (fns:=v_codec_Reader_Byte) (trivial) (⟨ok_codec_Reader_take,trivial⟩) (trivial) (af:=A_codec_Reader_Byte) rfl (fun x=>show theO opn t_codec_Reader_Byte u_codec_Reader_Byte v_codec_Reader_Byte A_codec_Reader_Byte c_codec_Reader_Byte x=O_codec_Reader_Byte x by kernel_rfl)
def t_codec_Reader_Bool:List (Nat×Ct):=[]
def u_codec_Reader_Bool:List (Nat×OC):=[(163,c_codec_Reader_Fail),(165,c_codec_Reader_Byte)]
def v_codec_Reader_Bool:List (Nat×AFn):=[]
theorem ok_codec_Reader_Bool:OCtOk prog opn 120 c_codec_Reader_Bool:=theO_ok (cs:=t_codec_Reader_Bool) (os:=u_codec_Reader_Bool) (fns:=v_codec_Reader_Bool) (trivial) (⟨ok_codec_Reader_Fail,⟨ok_codec_Reader_Byte,trivial⟩⟩) (trivial) (af:=A_codec_Reader_Bool) rfl (fun x=>show theO opn t_codec_Reader_Bool u_codec_Reader_Bool v_codec_Reader_Bool A_codec_Reader_Bool c_codec_Reader_Bool x=O_codec_Reader_Bool x by kernel_rfl)
def t_codec_Reader_Text:List (Nat×Ct):=[]
def u_codec_Reader_Text:List (Nat×OC):=[(162,c_codec_Reader_take),(163,c_codec_Reader_Fail),(117,c_codec_Reader_Number)]
def v_codec_Reader_Text:List (Nat×AFn):=[]
theorem ok_codec_Reader_Text:OCtOk prog opn 121 c_codec_Reader_Text:=theO_ok (cs:=t_codec_Reader_Text) (os:=u_codec_Reader_Text) (fns:=v_codec_Reader_Text) (trivial) (⟨ok_codec_Reader_take,⟨ok_codec_Reader_Fail,⟨ok_codec_Reader_Number,trivial⟩⟩⟩) (trivial) (af:=A_codec_Reader_Text) rfl (fun x=>show theO opn t_codec_Reader_Text u_codec_Reader_Text v_codec_Reader_Text A_codec_Reader_Text c_codec_Reader_Text x=O_codec_Reader_Text x by kernel_rfl)
def t_codec_Reader_Done:List (Nat×Ct):=[]
def u_codec_Reader_Done:List (Nat×OC):=[]
def v_codec_Reader_Done:List (Nat×AFn):=[]
theorem ok_codec_Reader_Done:OCtOk prog opn 122 c_codec_Reader_Done:=theO_ok (cs:=t_codec_Reader_Done) (os:=u_codec_Reader_Done) (fns:=v_codec_Reader_Done) (trivial) (trivial) (trivial) (af:=A_codec_Reader_Done) rfl (fun x=>show theO opn t_codec_Reader_Done u_codec_Reader_Done v_codec_Reader_Done A_codec_Reader_Done c_codec_Reader_Done x=O_codec_Reader_Done x by kernel_rfl)
def t_delta_Read:List (Nat×Ct):=[(28,c_delta_Right)]
def u_delta_Read:List (Nat×OC):=[(122,c_codec_Reader_Done),(121,c_codec_Reader_Text),(120,c_codec_Reader_Bool),(119,c_delta_span),(118,c_codec_Reader_Err),(117,c_codec_Reader_Number),(116,c_codec_NewReader)]
def v_delta_Read:List (Nat×AFn):=[]
theorem ok_delta_Read:CtOk prog opn 61 c_delta_Read:=theC_ok (cs:=t_delta_Read) (os:=u_delta_Read) (fns:=v_delta_Read) (⟨ok_delta_Right,trivial⟩) (⟨ok_codec_Reader_Done,⟨ok_codec_Reader_Text,⟨ok_codec_Reader_Bool,⟨ok_delta_span,⟨ok_codec_Reader_Err,⟨ok_codec_Reader_Number,⟨ok_codec_NewReader,trivial⟩⟩⟩⟩⟩⟩⟩) (trivial) (af:=A_delta_Read) rfl (by decide) (fun x=>show theC opn t_delta_Read u_delta_Read v_delta_Read A_delta_Read c_delta_Read.args c_delta_Read.res c_delta_Read.fresh x=F_delta_Read x by kernel_rfl)
def t_batonref09_Same:List (Nat×Ct):=[]
def u_batonref09_Same:List (Nat×OC):=[]
def v_batonref09_Same:List (Nat×AFn):=[]
theorem ok_batonref09_Same:CtOk prog opn 75 c_batonref09_Same:=theC_ok (cs:=t_batonref09_Same) (os:=u_batonref09_Same) (fns:=v_batonref09_Same) (trivial) (trivial) (trivial) (af:=A_batonref09_Same) rfl (by decide) (fun x=>show theC opn t_batonref09_Same u_batonref09_Same v_batonref09_Same A_batonref09_Same c_batonref09_Same.args c_batonref09_Same.res c_batonref09_Same.fresh x=F_batonref09_Same x by kernel_rfl)
def t_batonref10_Same:List (Nat×Ct):=[(75,c_batonref09_Same)]
def u_batonref10_Same:List (Nat×OC):=[]
def v_batonref10_Same:List (Nat×AFn):=[]
theorem ok_batonref10_Same:CtOk prog opn 78 c_batonref10_Same:=theC_ok (cs:=t_batonref10_Same) (os:=u_batonref10_Same) (fns:=v_batonref10_Same) (⟨ok_batonref09_Same,trivial⟩) (trivial) (trivial) (af:=A_batonref10_Same) rfl (by decide) (fun x=>show theC opn t_batonref10_Same u_batonref10_Same v_batonref10_Same A_batonref10_Same c_batonref10_Same.args c_batonref10_Same.res c_batonref10_Same.fresh x=F_batonref10_Same x by kernel_rfl)
def t_batonref16_Same:List (Nat×Ct):=[(78,c_batonref10_Same)]
def u_batonref16_Same:List (Nat×OC):=[]
def v_batonref16_Same:List (Nat×AFn):=[]
theorem ok_batonref16_Same:CtOk prog opn 36 c_batonref16_Same:=theC_ok (cs:=t_batonref16_Same) (os:=u_batonref16_Same) (fns:=v_batonref16_Same) (⟨ok_batonref10_Same,trivial⟩) (trivial) (trivial) (af:=A_batonref16_Same) rfl (by decide) (fun x=>show theC opn t_batonref16_Same u_batonref16_Same v_batonref16_Same A_batonref16_Same c_batonref16_Same.args c_batonref16_Same.res c_batonref16_Same.fresh x=F_batonref16_Same x by kernel_rfl)
def t_slices_Equal_api_Cell_api_Cell:List (Nat×Ct):=[]
def u_slices_Equal_api_Cell_api_Cell:List (Nat×OC):=[]
def v_slices_Equal_api_Cell_api_Cell:List (Nat×AFn):=[]
theorem ok_slices_Equal_api_Cell_api_Cell:CtOk prog opn 169 c_slices_Equal_api_Cell_api_Cell:=theC_ok (cs:=t_slices_Equal_api_Cell_api_Cell) (os:=u_slices_Equal_api_Cell_api_Cell) (fns:=v_slices_Equal_api_Cell_api_Cell) (trivial) (trivial) (trivial) (af:=A_slices_Equal_api_Cell_api_Cell) rfl (by decide) (fun x=>show theC opn t_slices_Equal_api_Cell_api_Cell u_slices_Equal_api_Cell_api_Cell v_slices_Equal_api_Cell_api_Cell A_slices_Equal_api_Cell_api_Cell c_slices_Equal_api_Cell_api_Cell.args c_slices_Equal_api_Cell_api_Cell.res c_slices_Equal_api_Cell_api_Cell.fresh x=F_slices_Equal_api_Cell_api_Cell x by kernel_rfl)
def t_grid_Same:List (Nat×Ct):=[(169,c_slices_Equal_api_Cell_api_Cell)]
def u_grid_Same:List (Nat×OC):=[]
def v_grid_Same:List (Nat×AFn):=[]
theorem ok_grid_Same:CtOk prog opn 128 c_grid_Same:=theC_ok (cs:=t_grid_Same) (os:=u_grid_Same) (fns:=v_grid_Same) (⟨ok_slices_Equal_api_Cell_api_Cell,trivial⟩) (trivial) (trivial) (af:=A_grid_Same) rfl (by decide) (fun x=>show theC opn t_grid_Same u_grid_Same v_grid_Same A_grid_Same c_grid_Same.args c_grid_Same.res c_grid_Same.fresh x=F_grid_Same x by kernel_rfl)
def t_paint_Same:List (Nat×Ct):=[(128,c_grid_Same)]
def u_paint_Same:List (Nat×OC):=[]
def v_paint_Same:List (Nat×AFn):=[]
theorem ok_paint_Same:CtOk prog opn 64 c_paint_Same:=theC_ok (cs:=t_paint_Same) (os:=u_paint_Same) (fns:=v_paint_Same) (⟨ok_grid_Same,trivial⟩) (trivial) (trivial) (af:=A_paint_Same) rfl (by decide) (fun x=>show theC opn t_paint_Same u_paint_Same v_paint_Same A_paint_Same c_paint_Same.args c_paint_Same.res c_paint_Same.fresh x=F_paint_Same x by kernel_rfl)
def t_batonlaw18_DeltaBack:List (Nat×Ct):=[(31,c_delta_Count),(64,c_paint_Same),(36,c_batonref16_Same),(61,c_delta_Read),(60,c_delta_Bytes),(35,c_delta_Apply),(25,c_delta_Of),(26,c_batonref17_Right),(24,c_batonlaw17_Few),(23,c_batonlaw18_awake)]
def u_batonlaw18_DeltaBack:List (Nat×OC):=[]
def v_batonlaw18_DeltaBack:List (Nat×AFn):=[]
theorem ok_batonlaw18_DeltaBack:CtOk prog opn 13 c_batonlaw18_DeltaBack:=theC_ok (cs:=t_batonlaw18_DeltaBack) (os:=u_batonlaw18_DeltaBack) (fns:=v_batonlaw18_DeltaBack) (⟨ok_delta_Count,⟨ok_paint_Same,⟨ok_batonref16_Same,⟨ok_delta_Read,⟨ok_delta_Bytes,⟨ok_delta_Apply,⟨ok_delta_Of,⟨ok_batonref17_Right,⟨ok_batonlaw17_Few,⟨ok_batonlaw18_awake,trivial⟩⟩⟩⟩⟩⟩⟩⟩⟩⟩) (trivial) (trivial) (af:=A_batonlaw18_DeltaBack) rfl (by decide) (fun x=>show theC opn t_batonlaw18_DeltaBack u_batonlaw18_DeltaBack v_batonlaw18_DeltaBack A_batonlaw18_DeltaBack c_batonlaw18_DeltaBack.args c_batonlaw18_DeltaBack.res c_batonlaw18_DeltaBack.fresh x=F_batonlaw18_DeltaBack x by kernel_rfl)
theorem link170:FLink Try.prog opn 170 A_grid_size.fn:=chkFunc_ok Try.func170 (by decide +kernel)
theorem link177:FLink Try.prog opn 177 A_cell_Pen.fn:=chkFunc_ok Try.func177 (by decide +kernel)
theorem link178:FLink Try.prog opn 178 A_runes_Bytes.fn:=chkFunc_ok Try.func178 (by decide +kernel)
theorem link137:FLink Try.prog opn 137 A_cell_Right.fn:=chkFunc_ok Try.func137 (by decide +kernel)
theorem link129:FLink Try.prog opn 129 A_grid_Right.fn:=chkFunc_ok Try.func129 (by decide +kernel)
theorem link184:FLink Try.prog opn 184 A_runes_broken.fn:=chkFunc_ok Try.func184 (by decide +kernel)
theorem link171:FLink Try.prog opn 171 A_runes_Valid.fn:=chkFunc_ok Try.func171 (by decide +kernel)
theorem link185:FLink Try.prog opn 185 A_seqs_told.fn:=chkFunc_ok Try.func185 (by decide +kernel)
theorem link186:FLink Try.prog opn 186 A_seqs_intermediate.fn:=chkFunc_ok Try.func186 (by decide +kernel)
theorem link187:FLink Try.prog opn 187 A_seqs_begins.fn:=chkFunc_ok Try.func187 (by decide +kernel)
theorem link188:FLink Try.prog opn 188 A_seqs_numbers.fn:=chkFunc_ok Try.func188 (by decide +kernel)
theorem link189:FLink Try.prog opn 189 A_seqs_line.fn:=chkFunc_ok Try.func189 (by decide +kernel)
theorem link172:FLink Try.prog opn 172 A_seqs_Right.fn:=chkFunc_ok Try.func172 (by decide +kernel)
theorem link130:FLink Try.prog opn 130 A_paint_title.fn:=chkFunc_ok Try.func130 (by decide +kernel)
theorem link65:FLink Try.prog opn 65 A_paint_Right.fn:=chkFunc_ok Try.func65 (by decide +kernel)
theorem link131:FLink Try.prog opn 131 A_slices_Clone_api_Cell_api_Cell.fn:=chkFunc_ok Try.func131 (by decide +kernel)
theorem link190:FLink Try.prog opn 190 A_cell_Blank.fn:=chkFunc_ok Try.func190 (by decide +kernel)
theorem link175:FLink Try.prog opn 175 A_grid_blanks.fn:=chkFunc_ok Try.func175 (by decide +kernel)
theorem link133:FLink Try.prog opn 133 A_grid_New.fn:=chkFunc_ok Try.func133 (by decide +kernel)
theorem link134:FLink Try.prog opn 134 A_grid_Board_Grid.fn:=chkFunc_ok Try.func134 (by decide +kernel)
theorem link72:FLink Try.prog opn 72 A_delta_fresh.fn:=chkFunc_ok Try.func72 (by decide +kernel)
theorem link66:FLink Try.prog opn 66 A_delta_base.fn:=chkFunc_ok Try.func66 (by decide +kernel)
theorem link67:FLink Try.prog opn 67 A_delta_spans.fn:=chkFunc_ok Try.func67 (by decide +kernel)
theorem link25:FLink Try.prog opn 25 A_delta_Of.fn:=chkFunc_ok Try.func25 (by decide +kernel)
theorem link31:FLink Try.prog opn 31 A_delta_Count.fn:=chkFunc_ok Try.func31 (by decide +kernel)
theorem link23:FLink Try.prog opn 23 A_batonlaw18_awake.fn:=chkFunc_ok Try.func23 (by decide +kernel)
theorem link24:FLink Try.prog opn 24 A_batonlaw17_Few.fn:=chkFunc_ok Try.func24 (by decide +kernel)
theorem link33:FLink Try.prog opn 33 A_batonref10_Size.fn:=chkFunc_ok Try.func33 (by decide +kernel)
theorem link139:FLink Try.prog opn 139 A_batonref08_Sign.fn:=chkFunc_ok Try.func139 (by decide +kernel)
theorem link77:FLink Try.prog opn 77 A_batonref09_Right.fn:=chkFunc_ok Try.func77 (by decide +kernel)
theorem link68:FLink Try.prog opn 68 A_batonref10_Right.fn:=chkFunc_ok Try.func68 (by decide +kernel)
theorem link69:FLink Try.prog opn 69 A_batonref10_There.fn:=chkFunc_ok Try.func69 (by decide +kernel)
theorem link174:FLink Try.prog opn 174 A_batonref08_Bytes.fn:=chkFunc_ok Try.func174 (by decide +kernel)
theorem link173:FLink Try.prog opn 173 A_batonref08_same.fn:=chkFunc_ok Try.func173 (by decide +kernel)
theorem link132:FLink Try.prog opn 132 A_batonref08_Whole.fn:=chkFunc_ok Try.func132 (by decide +kernel)
theorem link70:FLink Try.prog opn 70 A_batonref08_Valid.fn:=chkFunc_ok Try.func70 (by decide +kernel)
theorem link26:FLink Try.prog opn 26 A_batonref17_Right.fn:=chkFunc_ok Try.func26 (by decide +kernel)
theorem link73:FLink Try.prog opn 73 A_delta_Delta_image.fn:=chkFunc_ok Try.func73 (by decide +kernel)
theorem link176:FLink Try.prog opn 176 I_slices_IndexFunc_api_Cell_api_Cell.fn:=chkFunc_ok Try.func176 (by decide +kernel)
theorem link135:FLink Try.prog opn 135 I_slices_ContainsFunc_api_Cell_api_Cell.fn:=chkFunc_ok Try.func135 (by decide +kernel)
theorem link136:FLink Try.prog opn 136 A_delta_Delta_within_1.fn:=chkFunc_ok Try.func136 (by decide +kernel)
theorem link74:FLink Try.prog opn 74 A_delta_Delta_within.fn:=chkFunc_ok Try.func74 (by decide +kernel)
theorem link28:FLink Try.prog opn 28 A_delta_Right.fn:=chkFunc_ok Try.func28 (by decide +kernel)
theorem link35:FLink Try.prog opn 35 A_delta_Apply.fn:=chkFunc_ok Try.func35 (by decide +kernel)
theorem link110:FLink Try.prog opn 110 A_codec_NewWriter.fn:=chkFunc_ok Try.func110 (by decide +kernel)
theorem link159:FLink Try.prog opn 159 A_codec_Writer_Fail.fn:=chkFunc_ok Try.func159 (by decide +kernel)
theorem link160:FLink Try.prog opn 160 A_codec_Writer_add.fn:=chkFunc_ok Try.func160 (by decide +kernel)
theorem link111:FLink Try.prog opn 111 A_codec_Writer_Number.fn:=chkFunc_ok Try.func111 (by decide +kernel)
theorem link161:FLink Try.prog opn 161 A_cell_Runs.fn:=chkFunc_ok Try.func161 (by decide +kernel)
theorem link112:FLink Try.prog opn 112 A_cell_Write.fn:=chkFunc_ok Try.func112 (by decide +kernel)
theorem link113:FLink Try.prog opn 113 A_codec_Writer_Bool.fn:=chkFunc_ok Try.func113 (by decide +kernel)
theorem link114:FLink Try.prog opn 114 A_codec_Writer_Text.fn:=chkFunc_ok Try.func114 (by decide +kernel)
theorem link115:FLink Try.prog opn 115 A_codec_Writer_Bytes.fn:=chkFunc_ok Try.func115 (by decide +kernel)
theorem link60:FLink Try.prog opn 60 A_delta_Bytes.fn:=chkFunc_ok Try.func60 (by decide +kernel)
theorem link116:FLink Try.prog opn 116 A_codec_NewReader.fn:=chkFunc_ok Try.func116 (by decide +kernel)
theorem link163:FLink Try.prog opn 163 A_codec_Reader_Fail.fn:=chkFunc_ok Try.func163 (by decide +kernel)
theorem link162:FLink Try.prog opn 162 A_codec_Reader_take.fn:=chkFunc_ok Try.func162 (by decide +kernel)
theorem link117:FLink Try.prog opn 117 A_codec_Reader_Number.fn:=chkFunc_ok Try.func117 (by decide +kernel)
theorem link118:FLink Try.prog opn 118 A_codec_Reader_Err.fn:=chkFunc_ok Try.func118 (by decide +kernel)
theorem link183:FLink Try.prog opn 183 A_cell_run.fn:=chkFunc_ok Try.func183 (by decide +kernel)
theorem link164:FLink Try.prog opn 164 A_cell_Read.fn:=chkFunc_ok Try.func164 (by decide +kernel)
theorem link119:FLink Try.prog opn 119 A_delta_span.fn:=chkFunc_ok Try.func119 (by decide +kernel)
theorem link165:FLink Try.prog opn 165 A_codec_Reader_Byte.fn:=chkFunc_ok Try.func165 (by decide +kernel)
theorem link120:FLink Try.prog opn 120 A_codec_Reader_Bool.fn:=chkFunc_ok Try.func120 (by decide +kernel)
theorem link121:FLink Try.prog opn 121 A_codec_Reader_Text.fn:=chkFunc_ok Try.func121 (by decide +kernel)
theorem link122:FLink Try.prog opn 122 A_codec_Reader_Done.fn:=chkFunc_ok Try.func122 (by decide +kernel)
theorem link61:FLink Try.prog opn 61 A_delta_Read.fn:=chkFunc_ok Try.func61 (by decide +kernel)
theorem link75:FLink Try.prog opn 75 A_batonref09_Same.fn:=chkFunc_ok Try.func75 (by decide +kernel)
theorem link78:FLink Try.prog opn 78 A_batonref10_Same.fn:=chkFunc_ok Try.func78 (by decide +kernel)
theorem link36:FLink Try.prog opn 36 A_batonref16_Same.fn:=chkFunc_ok Try.func36 (by decide +kernel)
theorem link169:FLink Try.prog opn 169 A_slices_Equal_api_Cell_api_Cell.fn:=chkFunc_ok Try.func169 (by decide +kernel)
theorem link128:FLink Try.prog opn 128 A_grid_Same.fn:=chkFunc_ok Try.func128 (by decide +kernel)
theorem link64:FLink Try.prog opn 64 A_paint_Same.fn:=chkFunc_ok Try.func64 (by decide +kernel)
theorem link13:FLink Try.prog opn 13 A_batonlaw18_DeltaBack.fn:=chkFunc_ok Try.func13 (by decide +kernel)
theorem links:∀f sf,prog f=some sf→FLink Try.prog opn f sf:=by
 intro f sf h
 unfold prog at h
 split at h<;>first|(injection h with h;subst h)|(cases h;done)
 all_goals first
  |exact link170
  |exact link177
  |exact link178
  |exact link137
  |exact link129
  |exact link184
  |exact link171
  |exact link185
  |exact link186
  |exact link187
  |exact link188
  |exact link189
  |exact link172
  |exact link130
  |exact link65
  |exact link131
  |exact link190
  |exact link175
  |exact link133
  |exact link134
  |exact link72
  |exact link66
  |exact link67
  |exact link25
  |exact link31
  |exact link23
  |exact link24
  |exact link33
  |exact link139
  |exact link77
  |exact link68
  |exact link69
  |exact link174
  |exact link173
  |exact link132
  |exact link70
  |exact link26
  |exact link73
  |exact link176
  |exact link135
  |exact link136
  |exact link74
  |exact link28
  |exact link35
  |exact link110
  |exact link159
  |exact link160
  |exact link111
  |exact link161
  |exact link112
  |exact link113
  |exact link114
  |exact link115
  |exact link60
  |exact link116
  |exact link163
  |exact link162
  |exact link117
  |exact link118
  |exact link183
  |exact link164
  |exact link119
  |exact link165
  |exact link120
  |exact link121
  |exact link122
  |exact link61
  |exact link75
  |exact link78
  |exact link36
  |exact link169
  |exact link128
  |exact link64
  |exact link13
end
end Go.Ideal.Seat
