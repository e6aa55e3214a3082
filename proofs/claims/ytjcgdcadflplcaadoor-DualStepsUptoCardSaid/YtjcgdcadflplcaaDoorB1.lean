/- The functions of these laws as the abstract machine's code, printed by a program of this claim's. -/
import Derived.Test.YtjcgdcadflplcaaDoorA3
set_option linter.unusedVariables false
set_option linter.unusedSimpArgs false
set_option linter.unusedSectionVars false
namespace Go.Proofs.YtjcgdcadflplcaaDoor.AM.D21
open Go Go.Proofs.YtjcgdcadflplcaaDoor.AM
abbrev fX16:Nat:=6
abbrev fXq:Nat:=9
abbrev fX20:Nat:=10
abbrev fX1d:Nat:=12
abbrev fX17:Nat:=13
abbrev fXs:Nat:=14
abbrev fXc:Nat:=15
abbrev fXw:Nat:=17
abbrev fXu:Nat:=19
abbrev fXv:Nat:=20
abbrev fX1f:Nat:=21
abbrev fX22:Nat:=22
abbrev fX25:Nat:=23
abbrev fX21:Nat:=24
abbrev fX1z:Nat:=25
abbrev fX23:Nat:=26
abbrev fX24:Nat:=27
abbrev fXt:Nat:=28
abbrev fXr:Nat:=31
abbrev fXy:Nat:=32
abbrev fX1p:Nat:=33
abbrev fXa:Nat:=34
abbrev fX15:Nat:=35
abbrev fX2c:Nat:=36
abbrev fXx:Nat:=37
abbrev fX5:Nat:=38
abbrev fXz:Nat:=39
abbrev fX1w:Nat:=40
abbrev fX1t:Nat:=41
abbrev fX4:Nat:=42
abbrev fX14:Nat:=43
abbrev fX12:Nat:=44
abbrev fX2b:Nat:=45
abbrev fX1s:Nat:=46
abbrev fX1q:Nat:=47
abbrev fX1r:Nat:=48
abbrev fXb:Nat:=49
abbrev fX27:Nat:=50
abbrev fX8:Nat:=51
abbrev fX6:Nat:=52
abbrev fX7:Nat:=53
abbrev fX26:Nat:=54
abbrev fX10:Nat:=55
abbrev fX1c:Nat:=56
abbrev fX1u:Nat:=57
abbrev fX1v:Nat:=58
abbrev fX1y:Nat:=59
abbrev fX3:Nat:=60
abbrev fX13:Nat:=61
abbrev fX19:Nat:=62
abbrev fXf:Nat:=63
abbrev fX29:Nat:=64
abbrev fX9:Nat:=65
abbrev fX2:Nat:=66
abbrev fX11:Nat:=67
abbrev fX1l:Nat:=68
abbrev fX1g:Nat:=69
abbrev fX1m:Nat:=70
abbrev fX1o:Nat:=71
abbrev fX1n:Nat:=72
abbrev fX1j:Nat:=73
abbrev fX1x:Nat:=74
abbrev fX1:Nat:=75
abbrev fX18:Nat:=76
abbrev fXi:Nat:=77
abbrev fXe:Nat:=78
abbrev fXl:Nat:=79
abbrev fXo:Nat:=80
abbrev fXn:Nat:=81
abbrev fXg:Nat:=82
abbrev fX0:Nat:=83
abbrev fX1h:Nat:=84
abbrev fX1e:Nat:=85
abbrev fX1k:Nat:=86
abbrev fX1b:Nat:=87
abbrev fX1i:Nat:=88
abbrev fX1a:Nat:=89
abbrev fXp:Nat:=90
abbrev fX28:Nat:=91
abbrev fXd:Nat:=92
abbrev fXj:Nat:=93
abbrev fXh:Nat:=94
abbrev fXm:Nat:=95
abbrev fX2a:Nat:=96
abbrev fXk:Nat:=97
-- F 6 rota/rotalaw21.DualSteps: bads 0, calls [12, 13, 21, 14, 21, 22, 17, 23, 24, 25, 19, 26, 20, 27, 28]
abbrev OLq:=List IOper
abbrev Jq (d:Nat) (o:IOp):IOper:=⟨some d,o,none⟩
abbrev Kq (o:IOp):IOper:=⟨none,o,none⟩
abbrev Jm (d b:Nat):IOper:=⟨some d,.mv (.t b),none⟩
abbrev Jl (d b:Nat):IOper:=⟨some d,.ld none (.t b),none⟩
abbrev Jf (d k b:Nat):IOper:=⟨some d,.fa k (.t b),none⟩
abbrev Jn (d b:Nat):IOper:=⟨some d,.nilck (.t b),none⟩
abbrev Je (d b:Nat):IOper:=⟨some d,.len false (.t b),none⟩
abbrev Jx (d b k:Nat):IOper:=⟨some d,.ext (.t b) k,none⟩
abbrev Jk (n:Int):X:=.k (.c (.int .i64 n))
abbrev Ji (d k b c:Nat):IOper:=⟨some d,.iaS k (.t b) (.t c),none⟩
abbrev oX16_0:OLq:=[Jq 2 (.box 39 (.t 0)),Jq 4 (.mv (.k (.c (.bool false))))]
abbrev oX16_1:OLq:=[Jq 24 (.ld (some 12) (.t 2)),Jq 25 (.call (.k (.c (.fn fX1d [] []))) [.t 24]),Jm 26 25,⟨(some 27),.mv (.t 1),some (26,false)⟩,⟨(some 28),.call (.k (.c (.fn fX17 [] []))) [.t 27],some (26,false)⟩,Jq 29 (.pick (.t 26) (.k (.c (.bool true))) (.t 28))]
abbrev oX16_2:OLq:=[Jq 4 (.mv (.k (.c (.bool true))))]
abbrev oX16_3:OLq:=[Jq 30 (.ld (some 12) (.t 2)),Jq 31 (.call (.k (.c (.fn fX1f [] []))) [.t 30]),Jq 5 (.new 39 (.agg ([(.int .i64 0)]++[(.sl none 0 0 false)]++List.replicate 6 (.int .i64 0)++List.replicate 4 (.sl none 0 0 false)))),Kq (.st 12 (.t 5) (.t 31))]
abbrev oX16_4:OLq:=[Jq 33 (.ld (some 12) (.t 5)),Jq 34 (.call (.k (.c (.fn fXs [] []))) [.t 33]),Jm 32 34,Jx 35 32 0,Jx 36 32 1,Jm 6 35,Jm 7 36]
abbrev oX16_5:OLq:=[Jq 38 (.ld (some 12) (.t 2)),Jq 39 (.call (.k (.c (.fn fX1f [] []))) [.t 38]),Jq 40 (.call (.k (.c (.fn fX22 [] []))) [.t 39]),Jm 37 40,Jx 41 37 0,Jx 42 37 1,Jq 8 (.new 80 (.agg ([(.int .i64 0)]++[(.sl none 0 0 false)]++List.replicate 6 (.int .i64 0)++List.replicate 5 (.sl none 0 0 false)++List.replicate 2 (.int .u64 0)++[(.sl none 0 0 false)]++List.replicate 2 (.int .u64 0)++List.replicate 80 (.int .i64 0)))),Kq (.st 98 (.t 8) (.t 41)),Jm 9 42]
abbrev oX16_6:OLq:=[Jm 43 7,Jm 44 9,Jq 45 (.bin .neq (.t 43) (.t 44)),Jm 46 45,⟨(some 47),.mv (.t 6),some (46,false)⟩,⟨(some 48),.eq .ptr false (.t 47) (.k (.c (.ptr none))),some (46,false)⟩,⟨(some 49),.mv (.t 9),some (46,false)⟩,⟨(some 50),.bin .neq (.t 49) (Jk 0),some (46,false)⟩,⟨(some 51),.eq .bool true (.t 48) (.t 50),some (46,false)⟩,Jq 52 (.pick (.t 46) (.k (.c (.bool true))) (.t 51))]
abbrev oX16_7:OLq:=[Jq 4 (.mv (.k (.c (.bool false))))]
abbrev oX16_8:OLq:=[Jm 53 9,Jq 54 (.bin .neq (.t 53) (Jk 0))]
abbrev oX16_9:OLq:=[Jq 4 (.mv (.k (.c (.bool true))))]
abbrev oX16_10:OLq:=[Jm 55 1,Je 56 55,Jq 57 (.mv (Jk 0))]
abbrev oX16_11:OLq:=[Jq 58 (.bin .lss (.t 57) (.t 56))]
abbrev oX16_12:OLq:=[Jm 59 57,Jm 10 59]
abbrev oX16_13:OLq:=[Jm 60 1,Jm 61 10,Ji 62 7 60 61,Jq 63 (.ld (some 7) (.t 62)),Jq 11 (.new 45 (.agg (List.replicate 2 (.int .i64 0)++[(.int .u16 0)]++List.replicate 4 (.sl none 0 0 false)))),Kq (.st 7 (.t 11) (.t 63))]
abbrev oX16_14:OLq:=[Jm 65 6,Jf 66 0 11,Jl 67 66,Jf 68 1 11,Jq 69 (.ld (some 2) (.t 68)),Jf 70 3 11,Jq 71 (.ld (some 2) (.t 70)),Jf 72 5 11,Jq 73 (.ld (some 2) (.t 72)),Jq 74 (.call (.k (.c (.fn fXw [] []))) [.t 65,.t 67,.t 69,.t 71,.t 73]),Jm 64 74,Jx 75 64 0,Jx 76 64 1,Jx 77 64 2,Jm 12 75,Jm 13 76,Jm 14 77]
abbrev oX16_15:OLq:=[Jf 79 0 11,Jl 80 79,Jf 81 1 11,Jq 82 (.ld (some 2) (.t 81)),Jf 83 3 11,Jq 84 (.ld (some 2) (.t 83)),Jf 85 5 11,Jq 86 (.ld (some 2) (.t 85)),Jq 87 (.call (.k (.c (.fn fX25 [] []))) [.t 8,.t 80,.t 82,.t 84,.t 86]),Jm 78 87,Jx 88 78 0,Jx 89 78 1,Jx 90 78 2,Jm 15 88,Jm 16 89,Jm 17 90]
abbrev oX16_16:OLq:=[Jm 91 14,Jm 92 17,Jq 93 (.bin .neq (.t 91) (.t 92)),Jm 94 93,⟨(some 95),.mv (.t 12),some (94,false)⟩,⟨(some 96),.mv (.t 15),some (94,false)⟩,⟨(some 97),.call (.k (.c (.fn fX21 [] []))) [.t 95,.t 96],some (94,false)⟩,⟨(some 98),.un .not (.t 97),some (94,false)⟩,Jq 99 (.pick (.t 94) (.k (.c (.bool true))) (.t 98)),Jm 100 99,⟨(some 101),.mv (.t 13),some (100,false)⟩,⟨(some 102),.mv (.t 16),some (100,false)⟩,⟨(some 103),.call (.k (.c (.fn fX1z [] []))) [.t 101,.t 102],some (100,false)⟩,⟨(some 104),.un .not (.t 103),some (100,false)⟩,Jq 105 (.pick (.t 100) (.k (.c (.bool true))) (.t 104))]
abbrev oX16_17:OLq:=[Jq 4 (.mv (.k (.c (.bool false))))]
abbrev oX16_18:OLq:=[Jq 106 (.bin .add (.t 57) (Jk 1)),Jm 57 106]
def bX16_19:IC:=(.seq (.ops oX16_11) (.seq (.cond (.t 58) .skip (.exit 0)) (.seq (.block 1 (.seq (.ops oX16_12) (.seq (.ops oX16_13) (.seq (.ops oX16_14) (.seq (.ops oX16_15) (.seq (.ops oX16_16) (.cond (.t 105) (.seq (.ops oX16_17) .ret) .skip))))))) (.ops oX16_18))))
abbrev oX16_20:OLq:=[Jq 18 (.mv (Jk (-1)))]
abbrev oX16_21:OLq:=[Jm 107 18,Jq 108 (.bin .leq (.t 107) (Jk 16))]
abbrev oX16_22:OLq:=[Jq 19 (.mv (Jk (-1)))]
abbrev oX16_23:OLq:=[Jm 111 19,Jq 112 (.bin .leq (.t 111) (Jk 5))]
abbrev oX16_24:OLq:=[Jm 115 6,Jm 116 18,Jm 117 19,Jq 118 (.call (.k (.c (.fn fXu [] []))) [.t 115,.t 116,.t 117]),Jm 119 18,Jm 120 19,Jq 121 (.call (.k (.c (.fn fX23 [] []))) [.t 8,.t 119,.t 120]),Jq 122 (.bin .neq (.t 118) (.t 121))]
abbrev oX16_25:OLq:=[Jq 4 (.mv (.k (.c (.bool false))))]
abbrev oX16_26:OLq:=[Jm 113 19,Jq 114 (.bin .add (.t 113) (Jk 1)),Jm 19 114]
def bX16_27:IC:=(.seq (.seq (.ops oX16_23) (.cond (.t 112) .skip (.exit 4))) (.seq (.block 5 (.seq (.ops oX16_24) (.cond (.t 122) (.seq (.ops oX16_25) .ret) .skip))) (.ops oX16_26)))
abbrev oX16_28:OLq:=[Jm 109 18,Jq 110 (.bin .add (.t 109) (Jk 1)),Jm 18 110]
def bX16_29:IC:=(.seq (.seq (.ops oX16_21) (.cond (.t 108) .skip (.exit 2))) (.seq (.block 3 (.seq (.ops oX16_22) (.block 4 (.loop bX16_27)))) (.ops oX16_28)))
abbrev oX16_30:OLq:=[Jm 124 6,Jq 125 (.call (.k (.c (.fn fXv [] []))) [.t 124]),Jm 123 125,Jx 126 123 0,Jx 127 123 1,Jm 20 126,Jm 21 127]
abbrev oX16_31:OLq:=[Jq 129 (.call (.k (.c (.fn fX24 [] []))) [.t 8]),Jm 128 129,Jx 130 128 0,Jx 131 128 1,Jm 22 130,Jm 23 131]
abbrev oX16_32:OLq:=[Jm 133 22,Jm 132 20,Jq 134 (.bin .eql (.t 132) (.t 133)),Jm 135 134,⟨(some 137),.mv (.t 23),some (135,true)⟩,⟨(some 136),.mv (.t 21),some (135,true)⟩,⟨(some 138),.bin .eql (.t 136) (.t 137),some (135,true)⟩,Jq 139 (.pick (.t 135) (.t 138) (.k (.c (.bool false)))),Jm 140 139,⟨(some 147),.fa 12 (.t 8),some (140,true)⟩,⟨(some 148),.iaA 2 3 (.t 147) (Jk 1),some (140,true)⟩,⟨(some 149),.fa 1 (.t 148),some (140,true)⟩,⟨(some 150),.ld none (.t 149),some (140,true)⟩,⟨(some 143),.fa 12 (.t 8),some (140,true)⟩,⟨(some 144),.iaA 2 3 (.t 143) (Jk 0),some (140,true)⟩,⟨(some 145),.fa 1 (.t 144),some (140,true)⟩,⟨(some 146),.ld none (.t 145),some (140,true)⟩,⟨(some 151),.bin .add (.t 146) (.t 150),some (140,true)⟩,⟨(some 141),.mv (.t 6),some (140,true)⟩,⟨(some 142),.call (.k (.c (.fn fXt [] []))) [.t 141],some (140,true)⟩,⟨none,.same (some none) (.t 149) (.t 150),some (140,true)⟩,⟨none,.same (some none) (.t 145) (.t 146),some (140,true)⟩,⟨(some 152),.bin .eql (.t 142) (.t 151),some (140,true)⟩,Jq 153 (.pick (.t 140) (.t 152) (.k (.c (.bool false)))),Jm 4 153]
def cX16:IC:=(.seq (.ops oX16_0) (.seq (.seq (.ops oX16_1) (.cond (.t 29) (.seq (.ops oX16_2) .ret) .skip)) (.seq (.ops oX16_3) (.seq (.ops oX16_4) (.seq (.ops oX16_5) (.seq (.seq (.ops oX16_6) (.cond (.t 52) (.seq (.ops oX16_7) .ret) .skip)) (.seq (.seq (.ops oX16_8) (.cond (.t 54) (.seq (.ops oX16_9) .ret) .skip)) (.seq (.seq (.ops oX16_10) (.block 0 (.loop bX16_19))) (.seq (.seq (.ops oX16_20) (.block 2 (.loop bX16_29))) (.seq (.ops oX16_30) (.seq (.ops oX16_31) (.seq (.ops oX16_32) .ret))))))))))))
def iX16:IFn:=⟨154,cX16,[(4,none)]⟩
-- F 9 rota/dual.Choose: bads 0, calls [31]
abbrev oXq_0:OLq:=[Jq 4 (.box 3 (.t 0)),Jq 5 (.box 24 (.t 1)),Jq 8 (.new 29 (.agg (List.replicate 2 (.int .i64 0)++[(.int .u16 0)]++List.replicate 64 (.int .u8 0)))),Jq 9 (.mv (Jk 0))]
abbrev oXq_1:OLq:=[Jm 15 2,Jm 16 3,Jq 17 (.build [(.sl none 0 0 false),(.sl none 0 0 false)] [(0,1,(.t 15)),(1,1,(.t 16))]),Jq 10 (.new 26 (.agg [(.sl none 0 0 false),(.sl none 0 0 false)])),Kq (.st 2 (.t 10) (.t 17))]
abbrev oXq_2:OLq:=[Jq 11 (.new 94 (.agg (List.replicate 2 (.int .i64 0)++[(.int .u16 0)]++List.replicate 64 (.int .u8 0)++List.replicate 2 (.int .i64 0)++[(.int .u16 0)]++List.replicate 64 (.int .u8 0))))]
abbrev oXq_3:OLq:=[Jq 18 (.mkfn fXr [] [.t 10,.t 4,.t 5,.t 11]),Jm 12 18]
abbrev oXq_4:OLq:=[Jq 13 (.mv (Jk 0))]
abbrev oXq_5:OLq:=[Jq 19 (.mv (Jk 0))]
abbrev oXq_6:OLq:=[Jq 20 (.bin .lss (.t 19) (Jk 2))]
abbrev oXq_7:OLq:=[Jm 21 19,Jm 14 21]
abbrev oXq_8:OLq:=[Jm 22 12,Jm 23 14,Jq 24 (.call (.t 22) [.t 23])]
abbrev oXq_9:OLq:=[Jm 25 13,Jm 26 14,Jq 27 (.bin .add (Jk 1) (.t 26)),Jq 28 (.bin .add (.t 25) (.t 27)),Jm 13 28]
abbrev oXq_10:OLq:=[Jq 29 (.bin .add (.t 19) (Jk 1)),Jm 19 29]
def bXq_11:IC:=(.seq (.ops oXq_6) (.seq (.cond (.t 20) .skip (.exit 0)) (.seq (.block 1 (.seq (.ops oXq_7) (.seq (.ops oXq_8) (.cond (.t 24) (.ops oXq_9) .skip)))) (.ops oXq_10))))
abbrev oXq_12:OLq:=[Jm 31 13,Jq 32 (.bin .eql (.t 31) (Jk 3)),Jm 33 32,⟨(some 34),.iaA 2 67 (.t 11) (Jk 0),some (33,true)⟩,⟨(some 35),.ld (some 67) (.t 34),some (33,true)⟩,⟨(some 36),.iaA 2 67 (.t 11) (Jk 1),some (33,true)⟩,⟨(some 37),.ld (some 67) (.t 36),some (33,true)⟩,⟨(some 38),.eqagg [.int,.int,.int,.int,.int,.int,.int,.int,.int,.int,.int,.int,.int,.int,.int,.int,.int,.int,.int,.int,.int,.int,.int,.int,.int,.int,.int,.int,.int,.int,.int,.int,.int,.int,.int,.int,.int,.int,.int,.int,.int,.int,.int,.int,.int,.int,.int,.int,.int,.int,.int,.int,.int,.int,.int,.int,.int,.int,.int,.int,.int,.int,.int,.int,.int,.int,.int] true (.t 35) (.t 37),some (33,true)⟩,Jq 39 (.pick (.t 33) (.t 38) (.k (.c (.bool false)))),Jm 30 39]
abbrev oXq_13:OLq:=[Jq 40 (.build (List.replicate 2 (.int .i64 0)++[(.int .u16 0)]++List.replicate 64 (.int .u8 0)) []),Kq (.st 67 (.t 8) (.t 40)),Jq 9 (.mv (Jk 4))]
abbrev oXq_14:OLq:=[Jm 42 13,Jq 43 (.bin .eql (.t 42) (Jk 2)),Jm 41 43]
abbrev oXq_15:OLq:=[Jq 44 (.iaA 2 67 (.t 11) (Jk 1)),Jq 45 (.ld (some 67) (.t 44)),Jm 46 13,Kq (.st 67 (.t 8) (.t 45)),Jm 9 46]
abbrev oXq_16:OLq:=[Jm 48 13,Jq 49 (.bin .eql (.t 48) (Jk 0)),Jm 47 49]
abbrev oXq_17:OLq:=[Jq 50 (.build (List.replicate 2 (.int .i64 0)++[(.int .u16 0)]++List.replicate 64 (.int .u8 0)) []),Jm 51 13,Kq (.st 67 (.t 8) (.t 50)),Jm 9 51]
abbrev oXq_18:OLq:=[Jq 52 (.iaA 2 67 (.t 11) (Jk 0)),Jq 53 (.ld (some 67) (.t 52)),Jm 54 13,Kq (.st 67 (.t 8) (.t 53)),Jm 9 54]
def cXq:IC:=(.seq (.ops oXq_0) (.seq (.ops oXq_1) (.seq (.ops oXq_2) (.seq (.ops oXq_3) (.seq (.ops oXq_4) (.seq (.seq (.ops oXq_5) (.block 0 (.loop bXq_11))) (.seq (.block 2 (.seq (.ops oXq_12) (.cond (.t 30) (.seq (.ops oXq_13) .ret) (.seq (.ops oXq_14) (.cond (.t 41) (.seq (.ops oXq_15) .ret) (.seq (.ops oXq_16) (.cond (.t 47) (.seq (.ops oXq_17) .ret) .skip))))))) (.seq (.ops oXq_18) .ret))))))))
def iXq:IFn:=⟨55,cXq,[(8,(some (some 67))),(9,none)]⟩
-- F 10 rota/rotaref21.Choose: bads 0, calls [33, 33]
abbrev oX20_0:OLq:=[Jq 5 (.box 24 (.t 1)),Jq 8 (.new 29 (.agg (List.replicate 2 (.int .i64 0)++[(.int .u16 0)]++List.replicate 64 (.int .u8 0)))),Jq 9 (.mv (Jk 0))]
abbrev oX20_1:OLq:=[Jm 15 2,Jm 16 0,Jq 17 (.ld (some 2) (.t 5)),Jq 18 (.call (.k (.c (.fn fX1p [] []))) [.t 15,.t 16,.t 17]),Jm 14 18,Jx 19 14 0,Jx 20 14 1,Jq 10 (.new 29 (.agg (List.replicate 2 (.int .i64 0)++[(.int .u16 0)]++List.replicate 64 (.int .u8 0)))),Kq (.st 67 (.t 10) (.t 19)),Jm 11 20]
abbrev oX20_2:OLq:=[Jm 22 3,Jm 23 0,Jq 24 (.ld (some 2) (.t 5)),Jq 25 (.call (.k (.c (.fn fX1p [] []))) [.t 22,.t 23,.t 24]),Jm 21 25,Jx 26 21 0,Jx 27 21 1,Jq 12 (.new 29 (.agg (List.replicate 2 (.int .i64 0)++[(.int .u16 0)]++List.replicate 64 (.int .u8 0)))),Kq (.st 67 (.t 12) (.t 26)),Jm 13 27]
abbrev oX20_3:OLq:=[Jm 29 11,Jq 30 (.bin .eql (.t 29) (Jk 0)),Jm 31 30,⟨(some 32),.mv (.t 13),some (31,true)⟩,⟨(some 33),.bin .eql (.t 32) (Jk 0),some (31,true)⟩,Jq 34 (.pick (.t 31) (.t 33) (.k (.c (.bool false)))),Jm 35 34,⟨(some 36),.ld (some 67) (.t 10),some (35,true)⟩,⟨(some 37),.ld (some 67) (.t 12),some (35,true)⟩,⟨(some 38),.eqagg [.int,.int,.int,.int,.int,.int,.int,.int,.int,.int,.int,.int,.int,.int,.int,.int,.int,.int,.int,.int,.int,.int,.int,.int,.int,.int,.int,.int,.int,.int,.int,.int,.int,.int,.int,.int,.int,.int,.int,.int,.int,.int,.int,.int,.int,.int,.int,.int,.int,.int,.int,.int,.int,.int,.int,.int,.int,.int,.int,.int,.int,.int,.int,.int,.int,.int,.int] false (.t 36) (.t 37),some (35,true)⟩,Jq 39 (.pick (.t 35) (.t 38) (.k (.c (.bool false)))),Jm 28 39]
abbrev oX20_4:OLq:=[Jq 40 (.ld (some 67) (.t 10)),Kq (.st 67 (.t 8) (.t 40)),Jq 9 (.mv (Jk 3))]
abbrev oX20_5:OLq:=[Jm 42 11,Jq 43 (.bin .eql (.t 42) (Jk 0)),Jm 44 43,⟨(some 45),.mv (.t 13),some (44,true)⟩,⟨(some 46),.bin .eql (.t 45) (Jk 0),some (44,true)⟩,Jq 47 (.pick (.t 44) (.t 46) (.k (.c (.bool false)))),Jm 41 47]
abbrev oX20_6:OLq:=[Jq 48 (.build (List.replicate 2 (.int .i64 0)++[(.int .u16 0)]++List.replicate 64 (.int .u8 0)) []),Kq (.st 67 (.t 8) (.t 48)),Jq 9 (.mv (Jk 4))]
abbrev oX20_7:OLq:=[Jm 50 11,Jq 51 (.bin .eql (.t 50) (Jk 0)),Jm 49 51]
abbrev oX20_8:OLq:=[Jq 52 (.ld (some 67) (.t 10)),Kq (.st 67 (.t 8) (.t 52)),Jq 9 (.mv (Jk 1))]
abbrev oX20_9:OLq:=[Jm 54 13,Jq 55 (.bin .eql (.t 54) (Jk 0)),Jm 53 55]
abbrev oX20_10:OLq:=[Jq 56 (.ld (some 67) (.t 12)),Kq (.st 67 (.t 8) (.t 56)),Jq 9 (.mv (Jk 2))]
abbrev oX20_11:OLq:=[Jq 57 (.build (List.replicate 2 (.int .i64 0)++[(.int .u16 0)]++List.replicate 64 (.int .u8 0)) []),Kq (.st 67 (.t 8) (.t 57)),Jq 9 (.mv (Jk 0))]
def cX20:IC:=(.seq (.ops oX20_0) (.seq (.ops oX20_1) (.seq (.ops oX20_2) (.seq (.block 0 (.seq (.ops oX20_3) (.cond (.t 28) (.seq (.ops oX20_4) .ret) (.seq (.ops oX20_5) (.cond (.t 41) (.seq (.ops oX20_6) .ret) (.seq (.ops oX20_7) (.cond (.t 49) (.seq (.ops oX20_8) .ret) (.seq (.ops oX20_9) (.cond (.t 53) (.seq (.ops oX20_10) .ret) .skip))))))))) (.seq (.ops oX20_11) .ret)))))
def iX20:IFn:=⟨58,cX20,[(8,(some (some 67))),(9,none)]⟩
-- F 12 rota/rotaref02.Great: bads 0, calls []
abbrev oX1d_0:OLq:=[Jq 1 (.box 39 (.t 0)),Jq 2 (.mv (.k (.c (.bool false))))]
abbrev oX1d_1:OLq:=[Jf 6 1 1,Jl 7 6,Je 8 7,Jf 9 9 1,Jl 10 9,Je 11 10,Jq 12 (.bin .add (.t 8) (.t 11)),Jm 3 12]
abbrev oX1d_2:OLq:=[Jq 4 (.mv (Jk 0))]
abbrev oX1d_3:OLq:=[Jm 13 4,Jf 14 9 1,Jl 15 14,Je 16 15,Jq 17 (.bin .lss (.t 13) (.t 16)),Jm 18 17,⟨(some 19),.mv (.t 4),some (18,true)⟩,⟨(some 20),.bin .lss (.t 19) (Jk 100),some (18,true)⟩,Jq 21 (.pick (.t 18) (.t 20) (.k (.c (.bool false))))]
abbrev oX1d_4:OLq:=[Jm 24 3,Jf 25 9 1,Jl 26 25,Jm 27 4,Ji 28 1 26 27,Jl 29 28,Je 30 29,Jq 31 (.bin .add (.t 24) (.t 30)),Jm 3 31]
abbrev oX1d_5:OLq:=[Jm 22 4,Jq 23 (.bin .add (.t 22) (Jk 1)),Jm 4 23]
def bX1d_6:IC:=(.seq (.seq (.ops oX1d_3) (.cond (.t 21) .skip (.exit 0))) (.seq (.block 1 (.ops oX1d_4)) (.ops oX1d_5)))
abbrev oX1d_7:OLq:=[Jq 5 (.mv (Jk 0))]
abbrev oX1d_8:OLq:=[Jm 32 5,Jf 33 11 1,Jl 34 33,Je 35 34,Jq 36 (.bin .lss (.t 32) (.t 35)),Jm 37 36,⟨(some 38),.mv (.t 5),some (37,true)⟩,⟨(some 39),.bin .lss (.t 38) (Jk 100),some (37,true)⟩,Jq 40 (.pick (.t 37) (.t 39) (.k (.c (.bool false))))]
abbrev oX1d_9:OLq:=[Jm 43 3,Jf 44 11 1,Jl 45 44,Jm 46 5,Ji 47 3 45 46,Jf 48 1 47,Jl 49 48,Je 50 49,Jq 51 (.bin .add (.t 43) (.t 50)),Jm 3 51]
abbrev oX1d_10:OLq:=[Jm 41 5,Jq 42 (.bin .add (.t 41) (Jk 1)),Jm 5 42]
def bX1d_11:IC:=(.seq (.seq (.ops oX1d_8) (.cond (.t 40) .skip (.exit 2))) (.seq (.block 3 (.ops oX1d_9)) (.ops oX1d_10)))
abbrev oX1d_12:OLq:=[Jm 52 3,Jq 53 (.bin .gtr (.t 52) (Jk 1000)),Jm 54 53,⟨(some 55),.fa 8 (.t 1),some (54,false)⟩,⟨(some 56),.ld none (.t 55),some (54,false)⟩,⟨(some 57),.len false (.t 56),some (54,false)⟩,⟨(some 58),.bin .gtr (.t 57) (Jk 100),some (54,false)⟩,Jq 59 (.pick (.t 54) (.k (.c (.bool true))) (.t 58)),Jm 60 59,⟨(some 61),.fa 10 (.t 1),some (60,false)⟩,⟨(some 62),.ld none (.t 61),some (60,false)⟩,⟨(some 63),.len false (.t 62),some (60,false)⟩,⟨(some 64),.bin .gtr (.t 63) (Jk 100),some (60,false)⟩,Jq 65 (.pick (.t 60) (.k (.c (.bool true))) (.t 64)),Jm 66 65,⟨(some 67),.fa 11 (.t 1),some (66,false)⟩,⟨(some 68),.ld none (.t 67),some (66,false)⟩,⟨(some 69),.len false (.t 68),some (66,false)⟩,⟨(some 70),.bin .gtr (.t 69) (Jk 100),some (66,false)⟩,Jq 71 (.pick (.t 66) (.k (.c (.bool true))) (.t 70)),Jm 2 71]
def cX1d:IC:=(.seq (.ops oX1d_0) (.seq (.ops oX1d_1) (.seq (.seq (.ops oX1d_2) (.block 0 (.loop bX1d_6))) (.seq (.seq (.ops oX1d_7) (.block 2 (.loop bX1d_11))) (.seq (.ops oX1d_12) .ret)))))
def iX1d:IFn:=⟨72,cX1d,[(2,none)]⟩
-- F 13 rota/rotalaw21.great: bads 0, calls []
abbrev oX17_0:OLq:=[Jq 2 (.mv (.k (.c (.bool false))))]
abbrev oX17_1:OLq:=[Jm 6 0,Je 7 6,Jq 8 (.bin .gtr (.t 7) (Jk 40))]
abbrev oX17_2:OLq:=[Jq 2 (.mv (.k (.c (.bool true))))]
abbrev oX17_3:OLq:=[Jm 9 0,Je 10 9,Jq 11 (.mv (Jk 0))]
abbrev oX17_4:OLq:=[Jq 12 (.bin .lss (.t 11) (.t 10))]
abbrev oX17_5:OLq:=[Jm 13 11,Jm 3 13]
abbrev oX17_6:OLq:=[Jq 4 (.mv (Jk 0))]
abbrev oX17_7:OLq:=[Jm 14 4,Jq 15 (.bin .lss (.t 14) (Jk 2))]
abbrev oX17_8:OLq:=[Jm 18 0,Jm 19 3,Jm 20 4,Ji 21 7 18 19,Jf 22 3 21,Jq 23 (.iaA 2 1 (.t 22) (.t 20)),Jl 24 23,Je 25 24,Jq 26 (.bin .gtr (.t 25) (Jk 20)),Jm 27 26,⟨(some 28),.mv (.t 0),some (27,false)⟩,⟨(some 29),.mv (.t 3),some (27,false)⟩,⟨(some 30),.mv (.t 4),some (27,false)⟩,⟨(some 31),.iaS 7 (.t 28) (.t 29),some (27,false)⟩,⟨(some 32),.fa 5 (.t 31),some (27,false)⟩,⟨(some 33),.iaA 2 1 (.t 32) (.t 30),some (27,false)⟩,⟨(some 34),.ld none (.t 33),some (27,false)⟩,⟨(some 35),.len false (.t 34),some (27,false)⟩,⟨(some 36),.bin .gtr (.t 35) (Jk 40),some (27,false)⟩,Jq 37 (.pick (.t 27) (.k (.c (.bool true))) (.t 36))]
abbrev oX17_9:OLq:=[Jq 2 (.mv (.k (.c (.bool true))))]
abbrev oX17_10:OLq:=[Jm 38 0,Jm 39 3,Jm 40 4,Ji 41 7 38 39,Jf 42 3 41,Jq 43 (.iaA 2 1 (.t 42) (.t 40)),Jl 44 43,Je 45 44,Jq 46 (.mv (Jk 0))]
abbrev oX17_11:OLq:=[Jq 47 (.bin .lss (.t 46) (.t 45))]
abbrev oX17_12:OLq:=[Jm 48 46,Jm 5 48]
abbrev oX17_13:OLq:=[Jm 49 0,Jm 50 3,Jm 51 4,Ji 52 7 49 50,Jf 53 3 52,Jq 54 (.iaA 2 1 (.t 53) (.t 51)),Jl 55 54,Jm 56 5,Ji 57 2 55 56,Jf 58 1 57,Jl 59 58,Je 60 59,Jq 61 (.bin .gtr (.t 60) (Jk 200))]
abbrev oX17_14:OLq:=[Jq 2 (.mv (.k (.c (.bool true))))]
abbrev oX17_15:OLq:=[Jq 62 (.bin .add (.t 46) (Jk 1)),Jm 46 62]
def bX17_16:IC:=(.seq (.ops oX17_11) (.seq (.cond (.t 47) .skip (.exit 4)) (.seq (.block 5 (.seq (.ops oX17_12) (.seq (.ops oX17_13) (.cond (.t 61) (.seq (.ops oX17_14) .ret) .skip)))) (.ops oX17_15))))
abbrev oX17_17:OLq:=[Jm 16 4,Jq 17 (.bin .add (.t 16) (Jk 1)),Jm 4 17]
def bX17_18:IC:=(.seq (.seq (.ops oX17_7) (.cond (.t 15) .skip (.exit 2))) (.seq (.block 3 (.seq (.seq (.ops oX17_8) (.cond (.t 37) (.seq (.ops oX17_9) .ret) .skip)) (.seq (.ops oX17_10) (.block 4 (.loop bX17_16))))) (.ops oX17_17)))
abbrev oX17_19:OLq:=[Jq 63 (.bin .add (.t 11) (Jk 1)),Jm 11 63]
def bX17_20:IC:=(.seq (.ops oX17_4) (.seq (.cond (.t 12) .skip (.exit 0)) (.seq (.block 1 (.seq (.ops oX17_5) (.seq (.ops oX17_6) (.block 2 (.loop bX17_18))))) (.ops oX17_19))))
abbrev oX17_21:OLq:=[Jq 2 (.mv (.k (.c (.bool false))))]
def cX17:IC:=(.seq (.ops oX17_0) (.seq (.seq (.ops oX17_1) (.cond (.t 8) (.seq (.ops oX17_2) .ret) .skip)) (.seq (.seq (.ops oX17_3) (.block 0 (.loop bX17_20))) (.seq (.ops oX17_21) .ret))))
def iX17:IFn:=⟨64,cX17,[(2,none)]⟩
-- F 14 rota/dual.New: bads 0, calls [34]
abbrev oXs_0:OLq:=[Jq 1 (.box 39 (.t 0)),Jq 2 (.mv (.k (.c (.ptr none)))),Jq 3 (.mv (Jk 0))]
abbrev oXs_1:OLq:=[Jq 8 (.build ([(.int .i64 0)]++[(.sl none 0 0 false)]++List.replicate 6 (.int .i64 0)++List.replicate 4 (.sl none 0 0 false)++List.replicate 2 (.ptr none)++List.replicate 80 (.int .i64 0)) []),Jq 9 (.box 93 (.t 8)),Jm 4 9]
abbrev oXs_2:OLq:=[Jq 10 (.mv (Jk 0))]
abbrev oXs_3:OLq:=[Jq 11 (.bin .lss (.t 10) (Jk 2))]
abbrev oXs_4:OLq:=[Jm 12 10,Jm 5 12]
abbrev oXs_5:OLq:=[Jq 14 (.ld (some 12) (.t 1)),Jq 15 (.call (.k (.c (.fn fXa [] []))) [.t 14]),Jm 13 15,Jx 16 13 0,Jx 17 13 1,Jm 6 16,Jm 7 17]
abbrev oXs_6:OLq:=[Jm 18 7,Jq 19 (.bin .neq (.t 18) (Jk 0))]
abbrev oXs_7:OLq:=[Jm 20 7,Jq 2 (.mv (.k (.c (.ptr none)))),Jm 3 20]
abbrev oXs_8:OLq:=[Jm 21 4,Jm 22 5,Jm 23 6,Jn 24 21,Jf 25 12 24,Jq 26 (.iaA 2 1 (.t 25) (.t 22)),Kq (.st 1 (.t 26) (.t 23))]
abbrev oXs_9:OLq:=[Jq 27 (.bin .add (.t 10) (Jk 1)),Jm 10 27]
def bXs_10:IC:=(.seq (.ops oXs_3) (.seq (.cond (.t 11) .skip (.exit 0)) (.seq (.block 1 (.seq (.ops oXs_4) (.seq (.ops oXs_5) (.seq (.seq (.ops oXs_6) (.cond (.t 19) (.seq (.ops oXs_7) .ret) .skip)) (.ops oXs_8))))) (.ops oXs_9))))
abbrev oXs_11:OLq:=[Jf 32 1 1,Jl 33 32,Jf 29 0 1,Jl 30 29,Jm 28 4,Jq 31 (.bsl 3 0 [] []),Jq 34 (.app 3 1 8 (.t 31) (.t 33)),Kq (.same (some none) (.t 29) (.t 30)),Jq 35 (.build ([(.int .i64 0)]++[(.sl none 0 0 false)]++List.replicate 6 (.int .i64 0)++List.replicate 4 (.sl none 0 0 false)) [(0,1,(.t 30)),(1,1,(.t 34))]),Jn 36 28,Jf 37 0 36,Kq (.st 12 (.t 37) (.t 35))]
abbrev oXs_12:OLq:=[Jm 38 4,Jm 2 38,Jq 3 (.mv (Jk 0))]
def cXs:IC:=(.seq (.ops oXs_0) (.seq (.ops oXs_1) (.seq (.seq (.ops oXs_2) (.block 0 (.loop bXs_10))) (.seq (.ops oXs_11) (.seq (.ops oXs_12) .ret)))))
def iXs:IFn:=⟨39,cXs,[(2,none),(3,none)]⟩
-- F 15 rota/config.Owner: bads 0, calls []
abbrev oXc_0:OLq:=[Jq 2 (.box 39 (.t 0)),Jq 4 (.mv (Jk 0))]
abbrev oXc_1:OLq:=[Jm 5 1,Jq 6 (.bin .lss (.t 5) (Jk 0)),Jm 7 6,⟨(some 8),.fa 0 (.t 2),some (7,false)⟩,⟨(some 9),.ld none (.t 8),some (7,false)⟩,⟨(some 10),.bin .lss (.t 9) (Jk 1),some (7,false)⟩,Jq 11 (.pick (.t 7) (.k (.c (.bool true))) (.t 10)),Jm 12 11,⟨(some 13),.fa 1 (.t 2),some (12,false)⟩,⟨(some 14),.ld none (.t 13),some (12,false)⟩,⟨(some 15),.len false (.t 14),some (12,false)⟩,⟨(some 16),.fa 0 (.t 2),some (12,false)⟩,⟨(some 17),.ld none (.t 16),some (12,false)⟩,⟨(some 18),.bin .neq (.t 15) (.t 17),some (12,false)⟩,Jq 19 (.pick (.t 12) (.k (.c (.bool true))) (.t 18))]
abbrev oXc_2:OLq:=[Jq 4 (.mv (Jk (-1)))]
abbrev oXc_3:OLq:=[Jf 20 1 2,Jl 21 20,Jm 22 1,Jf 23 0 2,Jl 24 23,Jq 25 (.bin .rem (.t 22) (.t 24)),Ji 26 1 21 25,Jl 27 26,Jm 4 27]
def cXc:IC:=(.seq (.ops oXc_0) (.seq (.seq (.ops oXc_1) (.cond (.t 19) (.seq (.ops oXc_2) .ret) .skip)) (.seq (.ops oXc_3) .ret)))
def iXc:IFn:=⟨28,cXc,[(4,none)]⟩
-- F 17 (*rota/dual.Pair).Step: bads 0, calls [37, 38, 15, 9]
abbrev oXw_0:OLq:=[Jq 7 (.box 24 (.t 2)),Jq 8 (.box 41 (.t 3)),Jq 9 (.box 43 (.t 4)),Jq 10 (.mv (.k (.c (.sl none 0 0 false)))),Jq 11 (.mv (.k (.c (.sl none 0 0 false)))),Jq 12 (.mv (Jk 0))]
abbrev oXw_1:OLq:=[Jm 23 0,Jq 24 (.call (.k (.c (.fn fXx [] []))) [.t 23])]
abbrev oXw_2:OLq:=[Jq 10 (.mv (.k (.c (.sl none 0 0 false)))),Jq 11 (.mv (.k (.c (.sl none 0 0 false)))),Jq 12 (.mv (Jk 1))]
abbrev oXw_3:OLq:=[Jm 25 1,Jq 26 (.bin .lss (.t 25) (Jk 0))]
abbrev oXw_4:OLq:=[Jq 10 (.mv (.k (.c (.sl none 0 0 false)))),Jq 11 (.mv (.k (.c (.sl none 0 0 false)))),Jq 12 (.mv (Jk 2))]
abbrev oXw_5:OLq:=[Jq 13 (.new 107 (.agg [(.sl none 0 0 false),(.sl none 0 0 false)]))]
abbrev oXw_6:OLq:=[Jq 27 (.mv (Jk 0))]
abbrev oXw_7:OLq:=[Jq 28 (.bin .lss (.t 27) (Jk 2))]
abbrev oXw_8:OLq:=[Jm 29 27,Jm 14 29]
abbrev oXw_9:OLq:=[Jm 31 0,Jm 32 14,Jn 33 31,Jf 34 12 33,Jq 35 (.iaA 2 1 (.t 34) (.t 32)),Jl 36 35,Jm 37 1,Jm 38 14,Jq 39 (.iaA 2 1 (.t 8) (.t 38)),Jl 40 39,Jm 41 14,Jq 42 (.iaA 2 1 (.t 9) (.t 41)),Jl 43 42,Jq 44 (.call (.k (.c (.fn fX5 [] []))) [.t 36,.t 37,.t 40,.t 43]),Jm 30 44,Jx 45 30 0,Jx 46 30 1,Jm 15 45,Jm 16 46]
abbrev oXw_10:OLq:=[Jm 47 16,Jq 48 (.bin .neq (.t 47) (Jk 0))]
abbrev oXw_11:OLq:=[Jm 49 16,Jq 10 (.mv (.k (.c (.sl none 0 0 false)))),Jq 11 (.mv (.k (.c (.sl none 0 0 false)))),Jm 12 49]
abbrev oXw_12:OLq:=[Jm 50 14,Jm 51 15,Jq 52 (.iaA 2 1 (.t 13) (.t 50)),Kq (.st 1 (.t 52) (.t 51))]
abbrev oXw_13:OLq:=[Jq 53 (.bin .add (.t 27) (Jk 1)),Jm 27 53]
def bXw_14:IC:=(.seq (.ops oXw_7) (.seq (.cond (.t 28) .skip (.exit 0)) (.seq (.block 1 (.seq (.ops oXw_8) (.seq (.ops oXw_9) (.seq (.seq (.ops oXw_10) (.cond (.t 48) (.seq (.ops oXw_11) .ret) .skip)) (.ops oXw_12))))) (.ops oXw_13))))
abbrev oXw_15:OLq:=[Jm 54 0,Jn 55 54,Jf 56 0 55,Jq 57 (.ld (some 12) (.t 56)),Jm 58 1,Jq 59 (.call (.k (.c (.fn fXc [] []))) [.t 57,.t 58]),Jm 17 59]
abbrev oXw_16:OLq:=[Jq 18 (.mv (.k (.c (.sl none 0 0 false))))]
abbrev oXw_17:OLq:=[Jq 19 (.mv (.k (.c (.sl none 0 0 false))))]
abbrev oXw_18:OLq:=[Jm 60 0,Jn 61 60,Jf 62 0 61,Jf 63 0 62,Jl 64 63,Jq 65 (.mv (Jk 0))]
abbrev oXw_19:OLq:=[Jq 66 (.bin .lss (.t 65) (.t 64))]
abbrev oXw_20:OLq:=[Jm 67 65,Jm 20 67]
abbrev oXw_21:OLq:=[Jm 69 17,Jq 70 (.ld (some 2) (.t 7)),Jq 71 (.iaA 2 1 (.t 13) (Jk 0)),Jl 72 71,Jm 73 20,Ji 74 1 72 73,Jl 75 74,Jq 76 (.iaA 2 1 (.t 13) (Jk 1)),Jl 77 76,Jm 78 20,Ji 79 1 77 78,Jl 80 79,Jq 81 (.call (.k (.c (.fn fXq [] []))) [.t 69,.t 70,.t 75,.t 80]),Jm 68 81,Jx 82 68 0,Jx 83 68 1,Jq 21 (.new 29 (.agg (List.replicate 2 (.int .i64 0)++[(.int .u16 0)]++List.replicate 64 (.int .u8 0)))),Kq (.st 67 (.t 21) (.t 82)),Jm 22 83]
abbrev oXw_22:OLq:=[Jm 84 18,Jq 85 (.ld (some 67) (.t 21)),Jq 86 (.bsl 29 1 (List.replicate 2 (.int .i64 0)++[(.int .u16 0)]++List.replicate 64 (.int .u8 0)) [(0,67,(.t 85))]),Jq 87 (.app 29 67 88 (.t 84) (.t 86)),Jm 88 19,Jm 89 22,Jq 90 (.bsl 3 1 [(.int .i64 0)] [(0,1,(.t 89))]),Jq 91 (.app 3 1 8 (.t 88) (.t 90)),Jm 18 87,Jm 19 91]
abbrev oXw_23:OLq:=[Jm 92 20,Jm 93 17,Jq 94 (.bin .neq (.t 92) (.t 93))]
abbrev oXw_24:OLq:=[Jm 95 0,Jm 96 17,Jm 97 22,Jn 98 95,Jf 99 14 98,Jq 100 (.iaA 16 5 (.t 99) (.t 96)),Jq 101 (.iaA 5 1 (.t 100) (.t 97)),Jl 102 101,Jq 103 (.bin .add (.t 102) (Jk 1)),Jn 104 95,Jf 105 14 104,Jq 106 (.iaA 16 5 (.t 105) (.t 96)),Jq 107 (.iaA 5 1 (.t 106) (.t 97)),Kq (.st 1 (.t 107) (.t 103))]
abbrev oXw_25:OLq:=[Jq 108 (.bin .add (.t 65) (Jk 1)),Jm 65 108]
def bXw_26:IC:=(.seq (.ops oXw_19) (.seq (.cond (.t 66) .skip (.exit 2)) (.seq (.block 3 (.seq (.ops oXw_20) (.seq (.ops oXw_21) (.seq (.ops oXw_22) (.seq (.ops oXw_23) (.cond (.t 94) (.ops oXw_24) .skip)))))) (.ops oXw_25))))
abbrev oXw_27:OLq:=[Jm 109 18,Jm 110 19,Jm 10 109,Jm 11 110,Jq 12 (.mv (Jk 0))]
def cXw:IC:=(.seq (.ops oXw_0) (.seq (.seq (.ops oXw_1) (.cond (.t 24) (.seq (.ops oXw_2) .ret) .skip)) (.seq (.seq (.ops oXw_3) (.cond (.t 26) (.seq (.ops oXw_4) .ret) .skip)) (.seq (.ops oXw_5) (.seq (.seq (.ops oXw_6) (.block 0 (.loop bXw_14))) (.seq (.ops oXw_15) (.seq (.ops oXw_16) (.seq (.ops oXw_17) (.seq (.seq (.ops oXw_18) (.block 2 (.loop bXw_26))) (.seq (.ops oXw_27) .ret))))))))))
def iXw:IFn:=⟨111,cXw,[(10,none),(11,none),(12,none)]⟩
-- F 19 (*rota/dual.Pair).Count: bads 0, calls [37]
abbrev oXu_0:OLq:=[Jq 6 (.mv (Jk 0))]
abbrev oXu_1:OLq:=[Jm 7 0,Jq 8 (.call (.k (.c (.fn fXx [] []))) [.t 7]),Jm 9 8,⟨(some 10),.mv (.t 1),some (9,false)⟩,⟨(some 11),.bin .lss (.t 10) (Jk 0),some (9,false)⟩,Jq 12 (.pick (.t 9) (.k (.c (.bool true))) (.t 11)),Jm 13 12,⟨(some 14),.mv (.t 1),some (13,false)⟩,⟨(some 15),.mv (.t 0),some (13,false)⟩,⟨(some 16),.nilck (.t 15),some (13,false)⟩,⟨(some 17),.fa 0 (.t 16),some (13,false)⟩,⟨(some 18),.fa 0 (.t 17),some (13,false)⟩,⟨(some 19),.ld none (.t 18),some (13,false)⟩,⟨(some 20),.bin .geq (.t 14) (.t 19),some (13,false)⟩,Jq 21 (.pick (.t 13) (.k (.c (.bool true))) (.t 20)),Jm 22 21,⟨(some 23),.mv (.t 2),some (22,false)⟩,⟨(some 24),.bin .lss (.t 23) (Jk 0),some (22,false)⟩,Jq 25 (.pick (.t 22) (.k (.c (.bool true))) (.t 24)),Jm 26 25,⟨(some 27),.mv (.t 2),some (26,false)⟩,⟨(some 28),.bin .geq (.t 27) (Jk 5),some (26,false)⟩,Jq 29 (.pick (.t 26) (.k (.c (.bool true))) (.t 28))]
abbrev oXu_2:OLq:=[Jq 6 (.mv (Jk 0))]
abbrev oXu_3:OLq:=[Jm 30 0,Jm 31 1,Jm 32 2,Jn 33 30,Jf 34 14 33,Jq 35 (.iaA 16 5 (.t 34) (.t 31)),Jq 36 (.iaA 5 1 (.t 35) (.t 32)),Jl 37 36,Jm 6 37]
def cXu:IC:=(.seq (.ops oXu_0) (.seq (.seq (.ops oXu_1) (.cond (.t 29) (.seq (.ops oXu_2) .ret) .skip)) (.seq (.ops oXu_3) .ret)))
def iXu:IFn:=⟨38,cXu,[(6,none)]⟩
-- F 20 (*rota/dual.Pair).Losses: bads 0, calls [37]
abbrev oXv_0:OLq:=[Jq 2 (.mv (Jk 0)),Jq 3 (.mv (Jk 0))]
abbrev oXv_1:OLq:=[Jm 6 0,Jq 7 (.call (.k (.c (.fn fXx [] []))) [.t 6])]
abbrev oXv_2:OLq:=[Jq 2 (.mv (Jk 0)),Jq 3 (.mv (Jk 0))]
abbrev oXv_3:OLq:=[Jm 8 0,Jn 9 8,Jf 10 14 9,Jq 11 (.ld (some 80) (.t 10)),Jq 12 (.mv (Jk 0))]
abbrev oXv_4:OLq:=[Jq 13 (.bin .lss (.t 12) (Jk 16))]
abbrev oXv_5:OLq:=[Jq 14 (.ix 16 5 (some 5) (.t 11) (.t 12)),Jq 5 (.new 77 (.agg (List.replicate 5 (.int .i64 0)))),Kq (.st 5 (.t 5) (.t 14))]
abbrev oXv_6:OLq:=[Jm 15 2,Jq 16 (.iaA 5 1 (.t 5) (Jk 2)),Jl 17 16,Jq 18 (.bin .add (.t 15) (.t 17)),Jm 2 18]
abbrev oXv_7:OLq:=[Jm 19 3,Jq 20 (.iaA 5 1 (.t 5) (Jk 1)),Jl 21 20,Jq 22 (.bin .add (.t 19) (.t 21)),Jm 3 22]
abbrev oXv_8:OLq:=[Jq 23 (.bin .add (.t 12) (Jk 1)),Jm 12 23]
def bXv_9:IC:=(.seq (.ops oXv_4) (.seq (.cond (.t 13) .skip (.exit 0)) (.seq (.block 1 (.seq (.ops oXv_5) (.seq (.ops oXv_6) (.ops oXv_7)))) (.ops oXv_8))))
abbrev oXv_10:OLq:=[Jm 24 2,Jm 25 3,Jm 2 24,Jm 3 25]
def cXv:IC:=(.seq (.ops oXv_0) (.seq (.seq (.ops oXv_1) (.cond (.t 7) (.seq (.ops oXv_2) .ret) .skip)) (.seq (.seq (.ops oXv_3) (.block 0 (.loop bXv_9))) (.seq (.ops oXv_10) .ret))))
def iXv:IFn:=⟨26,cXv,[(2,none),(3,none)]⟩
-- F 21 rota/rotaref02.Twin: bads 0, calls []
abbrev oX1f_0:OLq:=[Jq 1 (.box 39 (.t 0)),Jq 2 (.new 39 (.agg ([(.int .i64 0)]++[(.sl none 0 0 false)]++List.replicate 6 (.int .i64 0)++List.replicate 4 (.sl none 0 0 false))))]
abbrev oX1f_1:OLq:=[Jq 8 (.ld (some 12) (.t 1)),Jq 3 (.new 39 (.agg ([(.int .i64 0)]++[(.sl none 0 0 false)]++List.replicate 6 (.int .i64 0)++List.replicate 4 (.sl none 0 0 false)))),Kq (.st 12 (.t 3) (.t 8))]
abbrev oX1f_2:OLq:=[Jq 9 (.bsl 3 0 [] []),Jf 10 1 1,Jl 11 10,Jq 12 (.app 3 1 8 (.t 9) (.t 11)),Jf 13 1 3,Kq (.st 1 (.t 13) (.t 12))]
abbrev oX1f_3:OLq:=[Jq 14 (.bsl 154 0 [] []),Jf 15 8 1,Jl 16 15,Jq 17 (.app 154 3 24 (.t 14) (.t 16)),Jf 18 8 3,Kq (.st 1 (.t 18) (.t 17))]
abbrev oX1f_4:OLq:=[Jq 19 (.bsl 158 0 [] []),Jf 20 10 1,Jl 21 20,Jq 22 (.app 158 6 48 (.t 19) (.t 21)),Jf 23 10 3,Kq (.st 1 (.t 23) (.t 22))]
abbrev oX1f_5:OLq:=[Jf 24 9 3,Kq (.st 1 (.t 24) (.k (.c (.sl none 0 0 false))))]
abbrev oX1f_6:OLq:=[Jq 4 (.mv (Jk 0))]
abbrev oX1f_7:OLq:=[Jm 25 4,Jf 26 9 1,Jl 27 26,Je 28 27,Jq 29 (.bin .lss (.t 25) (.t 28))]
abbrev oX1f_8:OLq:=[Jq 32 (.bsl 3 0 [] []),Jf 33 9 1,Jl 34 33,Jm 35 4,Ji 36 1 34 35,Jl 37 36,Jq 38 (.app 3 1 8 (.t 32) (.t 37)),Jm 5 38]
abbrev oX1f_9:OLq:=[Jf 39 9 3,Jl 40 39,Jm 41 5,Jq 42 (.bsl 33 1 [(.sl none 0 0 false)] [(0,1,(.t 41))]),Jq 43 (.app 33 1 24 (.t 40) (.t 42)),Jf 44 9 3,Kq (.st 1 (.t 44) (.t 43))]
abbrev oX1f_10:OLq:=[Jm 30 4,Jq 31 (.bin .add (.t 30) (Jk 1)),Jm 4 31]
def bX1f_11:IC:=(.seq (.seq (.ops oX1f_7) (.cond (.t 29) .skip (.exit 0))) (.seq (.block 1 (.seq (.ops oX1f_8) (.ops oX1f_9))) (.ops oX1f_10)))
abbrev oX1f_12:OLq:=[Jf 45 11 3,Kq (.st 1 (.t 45) (.k (.c (.sl none 0 0 false))))]
abbrev oX1f_13:OLq:=[Jq 6 (.mv (Jk 0))]
abbrev oX1f_14:OLq:=[Jm 46 6,Jf 47 11 1,Jl 48 47,Je 49 48,Jq 50 (.bin .lss (.t 46) (.t 49))]
abbrev oX1f_15:OLq:=[Jf 53 11 1,Jl 54 53,Jm 55 6,Ji 56 3 54 55,Jq 57 (.ld (some 3) (.t 56)),Jq 7 (.new 100 (.agg [(.int .i64 0),(.sl none 0 0 false),(.int .i64 0)])),Kq (.st 3 (.t 7) (.t 57))]
abbrev oX1f_16:OLq:=[Jq 58 (.bsl 3 0 [] []),Jf 59 11 1,Jl 60 59,Jm 61 6,Ji 62 3 60 61,Jf 63 1 62,Jl 64 63,Jq 65 (.app 3 1 8 (.t 58) (.t 64)),Jf 66 1 7,Kq (.st 1 (.t 66) (.t 65))]
abbrev oX1f_17:OLq:=[Jf 67 11 3,Jl 68 67,Jq 69 (.ld (some 3) (.t 7)),Jq 70 (.bsl 100 1 [(.int .i64 0),(.sl none 0 0 false),(.int .i64 0)] [(0,3,(.t 69))]),Jq 71 (.app 100 3 40 (.t 68) (.t 70)),Jf 72 11 3,Kq (.st 1 (.t 72) (.t 71))]
abbrev oX1f_18:OLq:=[Jm 51 6,Jq 52 (.bin .add (.t 51) (Jk 1)),Jm 6 52]
def bX1f_19:IC:=(.seq (.seq (.ops oX1f_14) (.cond (.t 50) .skip (.exit 2))) (.seq (.block 3 (.seq (.ops oX1f_15) (.seq (.ops oX1f_16) (.ops oX1f_17)))) (.ops oX1f_18)))
abbrev oX1f_20:OLq:=[Jq 73 (.ld (some 12) (.t 3)),Kq (.st 12 (.t 2) (.t 73))]
def cX1f:IC:=(.seq (.ops oX1f_0) (.seq (.ops oX1f_1) (.seq (.ops oX1f_2) (.seq (.ops oX1f_3) (.seq (.ops oX1f_4) (.seq (.ops oX1f_5) (.seq (.seq (.ops oX1f_6) (.block 0 (.loop bX1f_11))) (.seq (.ops oX1f_12) (.seq (.seq (.ops oX1f_13) (.block 2 (.loop bX1f_19))) (.seq (.ops oX1f_20) .ret))))))))))
def iX1f:IFn:=⟨74,cX1f,[(2,(some (some 12)))]⟩
-- F 22 rota/rotaref21.New: bads 0, calls [40, 40]
abbrev oX22_0:OLq:=[Jq 1 (.box 39 (.t 0)),Jq 2 (.new 80 (.agg ([(.int .i64 0)]++[(.sl none 0 0 false)]++List.replicate 6 (.int .i64 0)++List.replicate 5 (.sl none 0 0 false)++List.replicate 2 (.int .u64 0)++[(.sl none 0 0 false)]++List.replicate 2 (.int .u64 0)++List.replicate 80 (.int .i64 0)))),Jq 3 (.mv (Jk 0))]
abbrev oX22_1:OLq:=[Jq 9 (.ld (some 12) (.t 1)),Jq 10 (.call (.k (.c (.fn fX1w [] []))) [.t 9]),Jm 8 10,Jx 11 8 0,Jx 12 8 1,Jq 4 (.new 75 (.agg [(.sl none 0 0 false),(.int .u64 0),(.int .u64 0)])),Kq (.st 3 (.t 4) (.t 11)),Jm 5 12]
abbrev oX22_2:OLq:=[Jq 14 (.ld (some 12) (.t 1)),Jq 15 (.call (.k (.c (.fn fX1w [] []))) [.t 14]),Jm 13 15,Jx 16 13 0,Jx 17 13 1,Jq 6 (.new 75 (.agg [(.sl none 0 0 false),(.int .u64 0),(.int .u64 0)])),Kq (.st 3 (.t 6) (.t 16)),Jm 7 17]
abbrev oX22_3:OLq:=[Jm 18 5,Jq 19 (.bin .neq (.t 18) (Jk 0))]
abbrev oX22_4:OLq:=[Jq 20 (.build ([(.int .i64 0)]++[(.sl none 0 0 false)]++List.replicate 6 (.int .i64 0)++List.replicate 5 (.sl none 0 0 false)++List.replicate 2 (.int .u64 0)++[(.sl none 0 0 false)]++List.replicate 2 (.int .u64 0)++List.replicate 80 (.int .i64 0)) []),Jm 21 5,Kq (.st 98 (.t 2) (.t 20)),Jm 3 21]
abbrev oX22_5:OLq:=[Jq 22 (.ld (some 12) (.t 1)),Jq 23 (.ld (some 3) (.t 4)),Jq 24 (.ld (some 3) (.t 6)),Jq 25 (.build [(.sl none 0 0 false),(.int .u64 0),(.int .u64 0),(.sl none 0 0 false),(.int .u64 0),(.int .u64 0)] [(0,3,(.t 23)),(3,3,(.t 24))]),Jq 26 (.build ([(.int .i64 0)]++[(.sl none 0 0 false)]++List.replicate 6 (.int .i64 0)++List.replicate 5 (.sl none 0 0 false)++List.replicate 2 (.int .u64 0)++[(.sl none 0 0 false)]++List.replicate 2 (.int .u64 0)++List.replicate 80 (.int .i64 0)) [(0,12,(.t 22)),(12,6,(.t 25))]),Kq (.st 98 (.t 2) (.t 26)),Jq 3 (.mv (Jk 0))]
def cX22:IC:=(.seq (.ops oX22_0) (.seq (.ops oX22_1) (.seq (.ops oX22_2) (.seq (.seq (.ops oX22_3) (.cond (.t 19) (.seq (.ops oX22_4) .ret) .skip)) (.seq (.ops oX22_5) .ret)))))
def iX22:IFn:=⟨27,cX22,[(2,(some (some 98))),(3,none)]⟩
-- F 23 (*rota/rotaref21.Pair).Step: bads 0, calls [41, 41, 10]
abbrev oX25_0:OLq:=[Jq 7 (.box 24 (.t 2)),Jq 8 (.box 41 (.t 3)),Jq 9 (.box 43 (.t 4)),Jq 10 (.mv (.k (.c (.sl none 0 0 false)))),Jq 11 (.mv (.k (.c (.sl none 0 0 false)))),Jq 12 (.mv (Jk 0))]
abbrev oX25_1:OLq:=[Jm 25 1,Jq 26 (.bin .lss (.t 25) (Jk 0))]
abbrev oX25_2:OLq:=[Jq 10 (.mv (.k (.c (.sl none 0 0 false)))),Jq 11 (.mv (.k (.c (.sl none 0 0 false)))),Jq 12 (.mv (Jk 2))]
abbrev oX25_3:OLq:=[Jm 28 0,Jn 29 28,Jf 30 12 29,Jq 31 (.iaA 2 3 (.t 30) (Jk 0)),Jm 32 1,Jq 33 (.iaA 2 1 (.t 8) (Jk 0)),Jl 34 33,Jq 35 (.iaA 2 1 (.t 9) (Jk 0)),Jl 36 35,Jq 37 (.call (.k (.c (.fn fX1t [] []))) [.t 31,.t 32,.t 34,.t 36]),Jm 27 37,Jx 38 27 0,Jx 39 27 1,Jx 40 27 2,Jm 13 38,Jm 14 39,Jm 15 40]
abbrev oX25_4:OLq:=[Jm 42 0,Jn 43 42,Jf 44 12 43,Jq 45 (.iaA 2 3 (.t 44) (Jk 1)),Jm 46 1,Jq 47 (.iaA 2 1 (.t 8) (Jk 1)),Jl 48 47,Jq 49 (.iaA 2 1 (.t 9) (Jk 1)),Jl 50 49,Jq 51 (.call (.k (.c (.fn fX1t [] []))) [.t 45,.t 46,.t 48,.t 50]),Jm 41 51,Jx 52 41 0,Jx 53 41 1,Jx 54 41 2,Jm 16 52,Jm 17 53,Jm 18 54]
abbrev oX25_5:OLq:=[Jm 55 0,Jn 56 55,Jf 57 0 56,Jf 58 1 57,Jl 59 58,Jm 60 1,Jm 61 0,Jn 62 61,Jf 63 0 62,Jf 64 0 63,Jl 65 64,Jq 66 (.bin .rem (.t 60) (.t 65)),Ji 67 1 59 66,Jl 68 67,Jm 19 68]
abbrev oX25_6:OLq:=[Jq 20 (.mv (.k (.c (.sl none 0 0 false))))]
abbrev oX25_7:OLq:=[Jq 21 (.mv (.k (.c (.sl none 0 0 false))))]
abbrev oX25_8:OLq:=[Jq 22 (.mv (Jk 0))]
abbrev oX25_9:OLq:=[Jm 69 22,Jm 70 0,Jn 71 70,Jf 72 0 71,Jf 73 0 72,Jl 74 73,Jq 75 (.bin .lss (.t 69) (.t 74))]
abbrev oX25_10:OLq:=[Jm 79 19,Jq 80 (.ld (some 2) (.t 7)),Jm 81 13,Jm 82 22,Ji 83 1 81 82,Jl 84 83,Jm 85 16,Jm 86 22,Ji 87 1 85 86,Jl 88 87,Jq 89 (.call (.k (.c (.fn fX20 [] []))) [.t 79,.t 80,.t 84,.t 88]),Jm 78 89,Jx 90 78 0,Jx 91 78 1,Jq 23 (.new 29 (.agg (List.replicate 2 (.int .i64 0)++[(.int .u16 0)]++List.replicate 64 (.int .u8 0)))),Kq (.st 67 (.t 23) (.t 90)),Jm 24 91]
abbrev oX25_11:OLq:=[Jm 92 20,Jq 93 (.ld (some 67) (.t 23)),Jq 94 (.bsl 29 1 (List.replicate 2 (.int .i64 0)++[(.int .u16 0)]++List.replicate 64 (.int .u8 0)) [(0,67,(.t 93))]),Jq 95 (.app 29 67 88 (.t 92) (.t 94)),Jm 20 95]
abbrev oX25_12:OLq:=[Jm 96 21,Jm 97 24,Jq 98 (.bsl 3 1 [(.int .i64 0)] [(0,1,(.t 97))]),Jq 99 (.app 3 1 8 (.t 96) (.t 98)),Jm 21 99]
abbrev oX25_13:OLq:=[Jm 100 22,Jm 101 19,Jq 102 (.bin .neq (.t 100) (.t 101))]
abbrev oX25_14:OLq:=[Jm 103 0,Jm 104 19,Jm 105 24,Jn 106 103,Jf 107 18 106,Jq 108 (.iaA 16 5 (.t 107) (.t 104)),Jq 109 (.iaA 5 1 (.t 108) (.t 105)),Jl 110 109,Jq 111 (.bin .add (.t 110) (Jk 1)),Jn 112 103,Jf 113 18 112,Jq 114 (.iaA 16 5 (.t 113) (.t 104)),Jq 115 (.iaA 5 1 (.t 114) (.t 105)),Kq (.st 1 (.t 115) (.t 111))]
abbrev oX25_15:OLq:=[Jm 76 22,Jq 77 (.bin .add (.t 76) (Jk 1)),Jm 22 77]
def bX25_16:IC:=(.seq (.seq (.ops oX25_9) (.cond (.t 75) .skip (.exit 0))) (.seq (.block 1 (.seq (.ops oX25_10) (.seq (.ops oX25_11) (.seq (.ops oX25_12) (.seq (.ops oX25_13) (.cond (.t 102) (.ops oX25_14) .skip)))))) (.ops oX25_15)))
abbrev oX25_17:OLq:=[Jm 116 20,Jm 117 21,Jm 10 116,Jm 11 117,Jq 12 (.mv (Jk 0))]
def cX25:IC:=(.seq (.ops oX25_0) (.seq (.seq (.ops oX25_1) (.cond (.t 26) (.seq (.ops oX25_2) .ret) .skip)) (.seq (.ops oX25_3) (.seq (.ops oX25_4) (.seq (.ops oX25_5) (.seq (.ops oX25_6) (.seq (.ops oX25_7) (.seq (.seq (.ops oX25_8) (.block 0 (.loop bX25_16))) (.seq (.ops oX25_17) .ret)))))))))
def iX25:IFn:=⟨118,cX25,[(10,none),(11,none),(12,none)]⟩
-- F 24 rota/rotaref21.Frames: bads 0, calls []
abbrev oX21_0:OLq:=[Jq 4 (.mv (.k (.c (.bool false))))]
abbrev oX21_1:OLq:=[Jm 6 0,Je 7 6,Jm 8 1,Je 9 8,Jq 10 (.bin .neq (.t 7) (.t 9))]
abbrev oX21_2:OLq:=[Jq 4 (.mv (.k (.c (.bool false))))]
abbrev oX21_3:OLq:=[Jq 5 (.mv (Jk 0))]
abbrev oX21_4:OLq:=[Jm 11 5,Jm 12 0,Je 13 12,Jq 14 (.bin .lss (.t 11) (.t 13))]
abbrev oX21_5:OLq:=[Jm 17 0,Jm 18 5,Ji 19 67 17 18,Jq 20 (.ld (some 67) (.t 19)),Jm 21 1,Jm 22 5,Ji 23 67 21 22,Jq 24 (.ld (some 67) (.t 23)),Jq 25 (.eqagg [.int,.int,.int,.int,.int,.int,.int,.int,.int,.int,.int,.int,.int,.int,.int,.int,.int,.int,.int,.int,.int,.int,.int,.int,.int,.int,.int,.int,.int,.int,.int,.int,.int,.int,.int,.int,.int,.int,.int,.int,.int,.int,.int,.int,.int,.int,.int,.int,.int,.int,.int,.int,.int,.int,.int,.int,.int,.int,.int,.int,.int,.int,.int,.int,.int,.int,.int] true (.t 20) (.t 24))]
abbrev oX21_6:OLq:=[Jq 4 (.mv (.k (.c (.bool false))))]
abbrev oX21_7:OLq:=[Jm 15 5,Jq 16 (.bin .add (.t 15) (Jk 1)),Jm 5 16]
def bX21_8:IC:=(.seq (.seq (.ops oX21_4) (.cond (.t 14) .skip (.exit 0))) (.seq (.block 1 (.seq (.ops oX21_5) (.cond (.t 25) (.seq (.ops oX21_6) .ret) .skip))) (.ops oX21_7)))
abbrev oX21_9:OLq:=[Jq 4 (.mv (.k (.c (.bool true))))]
def cX21:IC:=(.seq (.ops oX21_0) (.seq (.seq (.ops oX21_1) (.cond (.t 10) (.seq (.ops oX21_2) .ret) .skip)) (.seq (.seq (.ops oX21_3) (.block 0 (.loop bX21_8))) (.seq (.ops oX21_9) .ret))))
def iX21:IFn:=⟨26,cX21,[(4,none)]⟩
-- F 25 rota/rotaref20.Ints: bads 0, calls []
abbrev oX1z_0:OLq:=[Jq 4 (.mv (.k (.c (.bool false))))]
abbrev oX1z_1:OLq:=[Jm 6 0,Je 7 6,Jm 8 1,Je 9 8,Jq 10 (.bin .neq (.t 7) (.t 9))]
abbrev oX1z_2:OLq:=[Jq 4 (.mv (.k (.c (.bool false))))]
abbrev oX1z_3:OLq:=[Jq 5 (.mv (Jk 0))]
abbrev oX1z_4:OLq:=[Jm 11 5,Jm 12 0,Je 13 12,Jq 14 (.bin .lss (.t 11) (.t 13))]
abbrev oX1z_5:OLq:=[Jm 17 0,Jm 18 5,Ji 19 1 17 18,Jl 20 19,Jm 21 1,Jm 22 5,Ji 23 1 21 22,Jl 24 23,Jq 25 (.bin .neq (.t 20) (.t 24))]
abbrev oX1z_6:OLq:=[Jq 4 (.mv (.k (.c (.bool false))))]
abbrev oX1z_7:OLq:=[Jm 15 5,Jq 16 (.bin .add (.t 15) (Jk 1)),Jm 5 16]
def bX1z_8:IC:=(.seq (.seq (.ops oX1z_4) (.cond (.t 14) .skip (.exit 0))) (.seq (.block 1 (.seq (.ops oX1z_5) (.cond (.t 25) (.seq (.ops oX1z_6) .ret) .skip))) (.ops oX1z_7)))
abbrev oX1z_9:OLq:=[Jq 4 (.mv (.k (.c (.bool true))))]
def cX1z:IC:=(.seq (.ops oX1z_0) (.seq (.seq (.ops oX1z_1) (.cond (.t 10) (.seq (.ops oX1z_2) .ret) .skip)) (.seq (.seq (.ops oX1z_3) (.block 0 (.loop bX1z_8))) (.seq (.ops oX1z_9) .ret))))
def iX1z:IFn:=⟨26,cX1z,[(4,none)]⟩
-- F 26 (*rota/rotaref21.Pair).Count: bads 0, calls []
abbrev oX23_0:OLq:=[Jq 6 (.mv (Jk 0))]
abbrev oX23_1:OLq:=[Jm 7 1,Jq 8 (.bin .lss (.t 7) (Jk 0)),Jm 9 8,⟨(some 10),.mv (.t 1),some (9,false)⟩,⟨(some 11),.mv (.t 0),some (9,false)⟩,⟨(some 12),.nilck (.t 11),some (9,false)⟩,⟨(some 13),.fa 0 (.t 12),some (9,false)⟩,⟨(some 14),.fa 0 (.t 13),some (9,false)⟩,⟨(some 15),.ld none (.t 14),some (9,false)⟩,⟨(some 16),.bin .geq (.t 10) (.t 15),some (9,false)⟩,Jq 17 (.pick (.t 9) (.k (.c (.bool true))) (.t 16)),Jm 18 17,⟨(some 19),.mv (.t 2),some (18,false)⟩,⟨(some 20),.bin .lss (.t 19) (Jk 0),some (18,false)⟩,Jq 21 (.pick (.t 18) (.k (.c (.bool true))) (.t 20)),Jm 22 21,⟨(some 23),.mv (.t 2),some (22,false)⟩,⟨(some 24),.bin .gtr (.t 23) (Jk 4),some (22,false)⟩,Jq 25 (.pick (.t 22) (.k (.c (.bool true))) (.t 24))]
abbrev oX23_2:OLq:=[Jq 6 (.mv (Jk 0))]
abbrev oX23_3:OLq:=[Jm 26 0,Jm 27 1,Jm 28 2,Jn 29 26,Jf 30 18 29,Jq 31 (.iaA 16 5 (.t 30) (.t 27)),Jq 32 (.iaA 5 1 (.t 31) (.t 28)),Jl 33 32,Jm 6 33]
def cX23:IC:=(.seq (.ops oX23_0) (.seq (.seq (.ops oX23_1) (.cond (.t 25) (.seq (.ops oX23_2) .ret) .skip)) (.seq (.ops oX23_3) .ret)))
def iX23:IFn:=⟨34,cX23,[(6,none)]⟩
-- F 27 (*rota/rotaref21.Pair).Losses: bads 0, calls []
abbrev oX24_0:OLq:=[Jq 2 (.mv (Jk 0)),Jq 3 (.mv (Jk 0))]
abbrev oX24_1:OLq:=[Jq 4 (.mv (Jk 0))]
abbrev oX24_2:OLq:=[Jq 5 (.mv (Jk 0))]
abbrev oX24_3:OLq:=[Jq 6 (.mv (Jk 0))]
abbrev oX24_4:OLq:=[Jm 7 6,Jq 8 (.bin .lss (.t 7) (Jk 16))]
abbrev oX24_5:OLq:=[Jm 11 4,Jm 12 0,Jm 13 6,Jn 14 12,Jf 15 18 14,Jq 16 (.iaA 16 5 (.t 15) (.t 13)),Jq 17 (.iaA 5 1 (.t 16) (Jk 2)),Jl 18 17,Jq 19 (.bin .add (.t 11) (.t 18)),Jm 4 19]
abbrev oX24_6:OLq:=[Jm 20 5,Jm 21 0,Jm 22 6,Jn 23 21,Jf 24 18 23,Jq 25 (.iaA 16 5 (.t 24) (.t 22)),Jq 26 (.iaA 5 1 (.t 25) (Jk 1)),Jl 27 26,Jq 28 (.bin .add (.t 20) (.t 27)),Jm 5 28]
abbrev oX24_7:OLq:=[Jm 9 6,Jq 10 (.bin .add (.t 9) (Jk 1)),Jm 6 10]
def bX24_8:IC:=(.seq (.seq (.ops oX24_4) (.cond (.t 8) .skip (.exit 0))) (.seq (.block 1 (.seq (.ops oX24_5) (.ops oX24_6))) (.ops oX24_7)))
abbrev oX24_9:OLq:=[Jm 29 4,Jm 30 5,Jm 2 29,Jm 3 30]
def cX24:IC:=(.seq (.ops oX24_0) (.seq (.ops oX24_1) (.seq (.ops oX24_2) (.seq (.seq (.ops oX24_3) (.block 0 (.loop bX24_8))) (.seq (.ops oX24_9) .ret)))))
def iX24:IFn:=⟨31,cX24,[(2,none),(3,none)]⟩
-- F 28 (*rota/dual.Pair).Blocked: bads 0, calls [37, 42, 42]
abbrev oXt_0:OLq:=[Jq 2 (.mv (.k (.c (.int .u64 0))))]
abbrev oXt_1:OLq:=[Jm 3 0,Jq 4 (.call (.k (.c (.fn fXx [] []))) [.t 3])]
abbrev oXt_2:OLq:=[Jq 2 (.mv (.k (.c (.int .u64 0))))]
abbrev oXt_3:OLq:=[Jm 11 0,Jn 12 11,Jf 13 12 12,Jq 14 (.iaA 2 1 (.t 13) (Jk 1)),Jl 15 14,Jm 5 0,Jn 6 5,Jf 7 12 6,Jq 8 (.iaA 2 1 (.t 7) (Jk 0)),Jl 9 8,Jq 10 (.call (.k (.c (.fn fX4 [] []))) [.t 9]),Kq (.same (some none) (.t 14) (.t 15)),Jq 16 (.call (.k (.c (.fn fX4 [] []))) [.t 15]),Jq 17 (.bin .add (.t 10) (.t 16)),Jm 2 17]
def cXt:IC:=(.seq (.ops oXt_0) (.seq (.seq (.ops oXt_1) (.cond (.t 4) (.seq (.ops oXt_2) .ret) .skip)) (.seq (.ops oXt_3) .ret)))
def iXt:IFn:=⟨18,cXt,[(2,none)]⟩
-- F 31 rota/dual.Choose$1: bads 0, calls [32]
abbrev oXr_0:OLq:=[Jq 6 (.mv (.k (.c (.bool false))))]
abbrev oXr_1:OLq:=[Jm 10 0,Jq 11 (.iaA 2 1 (.t 1) (.t 10)),Jl 12 11,Jl 13 2,Jq 14 (.ld (some 2) (.t 3)),Jq 15 (.call (.k (.c (.fn fXy [] []))) [.t 12,.t 13,.t 14]),Jm 9 15,Jx 16 9 0,Jx 17 9 1,Jq 7 (.new 29 (.agg (List.replicate 2 (.int .i64 0)++[(.int .u16 0)]++List.replicate 64 (.int .u8 0)))),Kq (.st 67 (.t 7) (.t 16)),Jm 8 17]
abbrev oXr_2:OLq:=[Jm 18 0,Jq 19 (.ld (some 67) (.t 7)),Jq 20 (.iaA 2 67 (.t 4) (.t 18)),Kq (.st 67 (.t 20) (.t 19))]
abbrev oXr_3:OLq:=[Jm 21 0,Jq 22 (.iaA 2 1 (.t 1) (.t 21)),Jl 23 22,Jq 24 (.eq .sl true (.t 23) (.k (.c (.sl none 0 0 false)))),Jm 25 24,⟨(some 26),.mv (.t 8),some (25,true)⟩,⟨(some 27),.bin .eql (.t 26) (Jk 0),some (25,true)⟩,Jq 28 (.pick (.t 25) (.t 27) (.k (.c (.bool false)))),Jm 6 28]
def cXr:IC:=(.seq (.ops oXr_0) (.seq (.ops oXr_1) (.seq (.ops oXr_2) (.seq (.ops oXr_3) .ret))))
def iXr:IFn:=⟨29,cXr,[(6,none)]⟩
-- F 32 rota/frame.Accept: bads 0, calls [43, 35, 36, 45, 44]
abbrev oXy_0:OLq:=[Jq 5 (.box 24 (.t 2)),Jq 6 (.new 29 (.agg (List.replicate 2 (.int .i64 0)++[(.int .u16 0)]++List.replicate 64 (.int .u8 0)))),Jq 7 (.mv (Jk 0))]
abbrev oXy_1:OLq:=[Jm 11 0,Jq 12 (.call (.k (.c (.fn fX14 [] []))) [.t 11]),Jm 10 12,Jx 13 10 0,Jx 14 10 1,Jq 8 (.new 29 (.agg (List.replicate 2 (.int .i64 0)++[(.int .u16 0)]++List.replicate 64 (.int .u8 0)))),Kq (.st 67 (.t 8) (.t 13)),Jm 9 14]
abbrev oXy_2:OLq:=[Jm 15 9,Jq 16 (.un .not (.t 15))]
abbrev oXy_3:OLq:=[Jq 17 (.build (List.replicate 2 (.int .i64 0)++[(.int .u16 0)]++List.replicate 64 (.int .u8 0)) []),Kq (.st 67 (.t 6) (.t 17)),Jq 7 (.mv (Jk 30))]
abbrev oXy_4:OLq:=[Jm 18 0,Jq 19 (.ld (some 2) (.t 5)),Jq 20 (.call (.k (.c (.fn fX15 [] []))) [.t 19]),Jq 21 (.call (.k (.c (.fn fX2c [] []))) [.t 20]),Jm 22 0,Jq 23 (.slS 1 (.t 22) (some (Jk 6)) (some (Jk 71)) none),Jq 24 (.call (.k (.c (.fn fX2b [] []))) [.t 21,.t 23]),Jq 25 (.call (.k (.c (.fn fX12 [] []))) [.t 18,.t 24]),Jq 26 (.un .not (.t 25))]
abbrev oXy_5:OLq:=[Jq 27 (.build (List.replicate 2 (.int .i64 0)++[(.int .u16 0)]++List.replicate 64 (.int .u8 0)) []),Kq (.st 67 (.t 6) (.t 27)),Jq 7 (.mv (Jk 31))]
abbrev oXy_6:OLq:=[Jf 28 0 8,Jl 29 28,Jm 30 1,Jq 31 (.bin .neq (.t 29) (.t 30)),Jm 32 31,⟨(some 33),.fa 1 (.t 8),some (32,false)⟩,⟨(some 34),.ld (some 2) (.t 33),some (32,false)⟩,⟨(some 35),.ld (some 2) (.t 5),some (32,false)⟩,⟨(some 36),.eqagg [.int,.int] true (.t 34) (.t 35),some (32,false)⟩,Jq 37 (.pick (.t 32) (.k (.c (.bool true))) (.t 36))]
abbrev oXy_7:OLq:=[Jq 38 (.build (List.replicate 2 (.int .i64 0)++[(.int .u16 0)]++List.replicate 64 (.int .u8 0)) []),Kq (.st 67 (.t 6) (.t 38)),Jq 7 (.mv (Jk 30))]
abbrev oXy_8:OLq:=[Jq 39 (.ld (some 67) (.t 8)),Kq (.st 67 (.t 6) (.t 39)),Jq 7 (.mv (Jk 0))]
def cXy:IC:=(.seq (.ops oXy_0) (.seq (.ops oXy_1) (.seq (.seq (.ops oXy_2) (.cond (.t 16) (.seq (.ops oXy_3) .ret) .skip)) (.seq (.seq (.ops oXy_4) (.cond (.t 26) (.seq (.ops oXy_5) .ret) .skip)) (.seq (.seq (.ops oXy_6) (.cond (.t 37) (.seq (.ops oXy_7) .ret) .skip)) (.seq (.ops oXy_8) .ret))))))
def iXy:IFn:=⟨40,cXy,[(6,(some (some 67))),(7,none)]⟩
-- F 33 rota/rotaref03.Accept: bads 0, calls [46, 47, 48]
abbrev oX1p_0:OLq:=[Jq 5 (.box 24 (.t 2)),Jq 6 (.new 29 (.agg (List.replicate 2 (.int .i64 0)++[(.int .u16 0)]++List.replicate 64 (.int .u8 0)))),Jq 7 (.mv (Jk 0))]
abbrev oX1p_1:OLq:=[Jm 12 0,Jq 13 (.call (.k (.c (.fn fX1s [] []))) [.t 12]),Jm 11 13,Jx 14 11 0,Jx 15 11 1,Jq 8 (.new 29 (.agg (List.replicate 2 (.int .i64 0)++[(.int .u16 0)]++List.replicate 64 (.int .u8 0)))),Kq (.st 67 (.t 8) (.t 14)),Jm 9 15]
abbrev oX1p_2:OLq:=[Jm 16 9,Jq 17 (.un .not (.t 16))]
abbrev oX1p_3:OLq:=[Jq 18 (.build (List.replicate 2 (.int .i64 0)++[(.int .u16 0)]++List.replicate 64 (.int .u8 0)) []),Kq (.st 67 (.t 6) (.t 18)),Jq 7 (.mv (Jk 30))]
abbrev oX1p_4:OLq:=[Jq 19 (.ld (some 2) (.t 5)),Jq 20 (.call (.k (.c (.fn fX1q [] []))) [.t 19]),Jm 21 0,Jq 22 (.slS 1 (.t 21) (some (Jk 6)) (some (Jk 71)) none),Jq 23 (.app 5 1 1 (.t 20) (.t 22)),Jm 10 23]
abbrev oX1p_5:OLq:=[Jm 24 0,Jm 25 10,Jq 26 (.call (.k (.c (.fn fX1r [] []))) [.t 24,.t 25]),Jq 27 (.un .not (.t 26))]
abbrev oX1p_6:OLq:=[Jq 28 (.build (List.replicate 2 (.int .i64 0)++[(.int .u16 0)]++List.replicate 64 (.int .u8 0)) []),Kq (.st 67 (.t 6) (.t 28)),Jq 7 (.mv (Jk 31))]
abbrev oX1p_7:OLq:=[Jf 29 0 8,Jl 30 29,Jm 31 1,Jq 32 (.bin .neq (.t 30) (.t 31)),Jm 33 32,⟨(some 34),.fa 1 (.t 8),some (33,false)⟩,⟨(some 35),.ld (some 2) (.t 34),some (33,false)⟩,⟨(some 36),.ld (some 2) (.t 5),some (33,false)⟩,⟨(some 37),.eqagg [.int,.int] true (.t 35) (.t 36),some (33,false)⟩,Jq 38 (.pick (.t 33) (.k (.c (.bool true))) (.t 37))]
abbrev oX1p_8:OLq:=[Jq 39 (.build (List.replicate 2 (.int .i64 0)++[(.int .u16 0)]++List.replicate 64 (.int .u8 0)) []),Kq (.st 67 (.t 6) (.t 39)),Jq 7 (.mv (Jk 30))]
abbrev oX1p_9:OLq:=[Jq 40 (.ld (some 67) (.t 8)),Kq (.st 67 (.t 6) (.t 40)),Jq 7 (.mv (Jk 0))]
def cX1p:IC:=(.seq (.ops oX1p_0) (.seq (.ops oX1p_1) (.seq (.seq (.ops oX1p_2) (.cond (.t 17) (.seq (.ops oX1p_3) .ret) .skip)) (.seq (.ops oX1p_4) (.seq (.seq (.ops oX1p_5) (.cond (.t 27) (.seq (.ops oX1p_6) .ret) .skip)) (.seq (.seq (.ops oX1p_7) (.cond (.t 38) (.seq (.ops oX1p_8) .ret) .skip)) (.seq (.ops oX1p_9) .ret)))))))
def iX1p:IFn:=⟨41,cX1p,[(6,(some (some 67))),(7,none)]⟩
-- F 34 rota/bus.New: bads 0, calls [49, 50]
abbrev oXa_0:OLq:=[Jq 1 (.box 39 (.t 0)),Jq 2 (.mv (.k (.c (.ptr none)))),Jq 3 (.mv (Jk 0))]
abbrev oXa_1:OLq:=[Jq 5 (.ld (some 12) (.t 1)),Jq 6 (.call (.k (.c (.fn fXb [] []))) [.t 5]),Jm 4 6]
abbrev oXa_2:OLq:=[Jm 7 4,Jq 8 (.bin .neq (.t 7) (Jk 0))]
abbrev oXa_3:OLq:=[Jm 9 4,Jq 2 (.mv (.k (.c (.ptr none)))),Jm 3 9]
abbrev oXa_4:OLq:=[Jf 10 1 1,Jl 11 10,Jq 12 (.call (.k (.c (.fn fX27 [] []))) [.t 11]),Jq 13 (.build [(.sl none 0 0 false),(.int .u64 0),(.int .u64 0)] [(0,1,(.t 12))]),Jq 14 (.box 130 (.t 13)),Jm 2 14,Jq 3 (.mv (Jk 0))]
def cXa:IC:=(.seq (.ops oXa_0) (.seq (.seq (.ops oXa_1) (.seq (.ops oXa_2) (.cond (.t 8) (.seq (.ops oXa_3) .ret) .skip))) (.seq (.ops oXa_4) .ret)))
def iXa:IFn:=⟨15,cXa,[(2,none),(3,none)]⟩
-- F 35 rota/frame.state: bads 0, calls []
abbrev oX15_0:OLq:=[Jq 1 (.box 24 (.t 0)),Jq 2 (.mv (.k (.c (.sl none 0 0 false))))]
abbrev oX15_1:OLq:=[Jf 4 0 1,Jl 5 4,Jq 6 (.cv .u32 (.t 5)),Jm 3 6]
abbrev oX15_2:OLq:=[Jm 7 3,Jq 8 (.bin .shr (.t 7) (.k (.c (.int .u64 24)))),Jq 9 (.cv .u8 (.t 8)),Jm 10 3,Jq 11 (.bin .shr (.t 10) (.k (.c (.int .u64 16)))),Jq 12 (.cv .u8 (.t 11)),Jm 13 3,Jq 14 (.bin .shr (.t 13) (.k (.c (.int .u64 8)))),Jq 15 (.cv .u8 (.t 14)),Jm 16 3,Jq 17 (.cv .u8 (.t 16)),Jf 18 1 1,Jl 19 18,Jq 20 (.bin .shr (.t 19) (.k (.c (.int .u64 8)))),Jq 21 (.cv .u8 (.t 20)),Jf 22 1 1,Jl 23 22,Jq 24 (.cv .u8 (.t 23)),Jq 25 (.bsl 5 6 (List.replicate 6 (.int .u8 0)) [(0,1,(.t 9)),(1,1,(.t 12)),(2,1,(.t 15)),(3,1,(.t 17)),(4,1,(.t 21)),(5,1,(.t 24))]),Jm 2 25]
def cX15:IC:=(.seq (.ops oX15_0) (.seq (.ops oX15_1) (.seq (.ops oX15_2) .ret)))
def iX15:IFn:=⟨26,cX15,[(2,none)]⟩
-- F 36 rota/sum.Sum: bads 0, calls [45]
abbrev oX2c_0:OLq:=[Jq 2 (.mv (.k (.c (.int .u32 0))))]
abbrev oX2c_1:OLq:=[Jm 3 0,Jq 4 (.call (.k (.c (.fn fX2b [] []))) [(.k (.c (.int .u32 0))),.t 3]),Jm 2 4]
def cX2c:IC:=(.seq (.ops oX2c_0) (.seq (.ops oX2c_1) .ret))
def iX2c:IFn:=⟨5,cX2c,[(2,none)]⟩
-- F 37 (*rota/dual.Pair).none: bads 0, calls []
abbrev oXx_0:OLq:=[Jq 2 (.mv (.k (.c (.bool false))))]
abbrev oXx_1:OLq:=[Jm 3 0,Jq 4 (.eq .ptr false (.t 3) (.k (.c (.ptr none)))),Jm 5 4,⟨(some 6),.mv (.t 0),some (5,false)⟩,⟨(some 7),.nilck (.t 6),some (5,false)⟩,⟨(some 8),.fa 12 (.t 7),some (5,false)⟩,⟨(some 9),.iaA 2 1 (.t 8) (Jk 0),some (5,false)⟩,⟨(some 10),.ld none (.t 9),some (5,false)⟩,⟨(some 11),.eq .ptr false (.t 10) (.k (.c (.ptr none))),some (5,false)⟩,Jq 12 (.pick (.t 5) (.k (.c (.bool true))) (.t 11)),Jm 2 12]
def cXx:IC:=(.seq (.ops oXx_0) (.seq (.ops oXx_1) .ret))
def iXx:IFn:=⟨13,cXx,[(2,none)]⟩
-- F 38 (*rota/bus.Bus).Carry: bads 0, calls [51, 52, 53, 39]
abbrev oX5_0:OLq:=[Jq 8 (.mv (.k (.c (.sl none 0 0 false)))),Jq 9 (.mv (Jk 0))]
abbrev oX5_1:OLq:=[Jm 17 0,Jq 18 (.eq .ptr false (.t 17) (.k (.c (.ptr none)))),Jm 16 18]
abbrev oX5_2:OLq:=[Jq 8 (.mv (.k (.c (.sl none 0 0 false)))),Jq 9 (.mv (Jk 1))]
abbrev oX5_3:OLq:=[Jm 20 1,Jq 21 (.bin .lss (.t 20) (Jk 0)),Jm 19 21]
abbrev oX5_4:OLq:=[Jq 8 (.mv (.k (.c (.sl none 0 0 false)))),Jq 9 (.mv (Jk 2))]
abbrev oX5_5:OLq:=[Jm 22 0,Jn 23 22,Jf 24 0 23,Jl 25 24,Je 26 25,Jq 27 (.mksl 25 1 24 [(.sl none 0 0 false)] (.t 26) (.t 26)),Jm 10 27]
abbrev oX5_6:OLq:=[Jm 29 0,Jm 30 1,Jm 31 2,Jq 32 (.call (.k (.c (.fn fX8 [] []))) [.t 29,.t 30,.t 31]),Jm 28 32,Jx 33 28 0,Jx 34 28 1,Jq 11 (.new 25 (.c (.sl none 0 0 false))),Kq (.st 1 (.t 11) (.t 33)),Jm 12 34]
abbrev oX5_7:OLq:=[Jm 35 12,Jq 36 (.un .not (.t 35))]
abbrev oX5_8:OLq:=[Jm 37 10,Jm 8 37,Jq 9 (.mv (Jk 0))]
abbrev oX5_9:OLq:=[Jq 38 (.mkfn fX6 [] [.t 11]),Jm 13 38]
abbrev oX5_10:OLq:=[Jm 39 10,Je 40 39,Jq 41 (.mv (Jk 0))]
abbrev oX5_11:OLq:=[Jq 42 (.bin .lss (.t 41) (.t 40))]
abbrev oX5_12:OLq:=[Jm 43 41,Jm 14 43]
abbrev oX5_13:OLq:=[Jq 44 (.build [(.int .i64 0),(.int .i64 0),(.int .u32 0)] []),Jq 15 (.new 65 (.agg [(.int .i64 0),(.int .i64 0),(.int .u32 0)])),Kq (.st 3 (.t 15) (.t 44))]
abbrev oX5_14:OLq:=[Jm 45 14,Jm 46 3,Je 47 46,Jq 48 (.bin .lss (.t 45) (.t 47)),Jm 49 48,⟨(some 50),.mv (.t 14),some (49,true)⟩,⟨(some 51),.mv (.t 0),some (49,true)⟩,⟨(some 52),.mv (.t 1),some (49,true)⟩,⟨(some 53),.call (.k (.c (.fn fX7 [] []))) [.t 51,.t 52],some (49,true)⟩,⟨(some 54),.bin .neq (.t 50) (.t 53),some (49,true)⟩,Jq 55 (.pick (.t 49) (.t 54) (.k (.c (.bool false))))]
abbrev oX5_15:OLq:=[Jm 56 3,Jm 57 14,Ji 58 3 56 57,Jq 59 (.ld (some 3) (.t 58)),Kq (.st 3 (.t 15) (.t 59))]
abbrev oX5_16:OLq:=[Jf 60 0 15,Jl 61 60]
abbrev oX5_17:OLq:=[Jq 68 (.bin .eql (.t 61) (Jk 1)),Jm 67 68]
abbrev oX5_18:OLq:=[Jq 70 (.bin .eql (.t 61) (Jk 2)),Jm 69 70]
abbrev oX5_19:OLq:=[Jm 71 10,Jm 72 14,Jq 73 (.bsl 5 0 [] []),Jl 74 11,Jf 75 1 15,Jl 76 75,Jf 77 2 15,Jl 78 77,Jq 79 (.call (.k (.c (.fn fXz [] []))) [.t 74,.t 76,.t 78]),Jq 80 (.app 5 1 1 (.t 73) (.t 79)),Ji 81 1 71 72,Kq (.st 1 (.t 81) (.t 80))]
abbrev oX5_20:OLq:=[Jm 62 10,Jm 63 14,Jm 64 13,Jq 65 (.call (.t 64) []),Ji 66 1 62 63,Kq (.st 1 (.t 66) (.t 65))]
abbrev oX5_21:OLq:=[Jq 82 (.bin .add (.t 41) (Jk 1)),Jm 41 82]
def bX5_22:IC:=(.seq (.ops oX5_11) (.seq (.cond (.t 42) .skip (.exit 1)) (.seq (.block 2 (.seq (.ops oX5_12) (.seq (.ops oX5_13) (.seq (.seq (.ops oX5_14) (.cond (.t 55) (.ops oX5_15) .skip)) (.seq (.ops oX5_16) (.block 3 (.seq (.ops oX5_17) (.cond (.t 67) .skip (.seq (.ops oX5_18) (.cond (.t 69) (.ops oX5_19) (.ops oX5_20))))))))))) (.ops oX5_21))))
abbrev oX5_23:OLq:=[Jm 83 10,Jm 8 83,Jq 9 (.mv (Jk 0))]
def cX5:IC:=(.seq (.ops oX5_0) (.seq (.block 0 (.seq (.ops oX5_1) (.cond (.t 16) (.seq (.ops oX5_2) .ret) (.seq (.ops oX5_3) (.cond (.t 19) (.seq (.ops oX5_4) .ret) .skip))))) (.seq (.ops oX5_5) (.seq (.ops oX5_6) (.seq (.seq (.ops oX5_7) (.cond (.t 36) (.seq (.ops oX5_8) .ret) .skip)) (.seq (.ops oX5_9) (.seq (.seq (.ops oX5_10) (.block 1 (.loop bX5_22))) (.seq (.ops oX5_23) .ret))))))))
def iX5:IFn:=⟨84,cX5,[(8,none),(9,none)]⟩
-- F 39 rota/frame.Corrupt: bads 0, calls [54, 55]
abbrev oXz_0:OLq:=[Jq 3 (.box 25 (.t 0)),Jq 4 (.box 3 (.t 1)),Jq 6 (.mv (.k (.c (.sl none 0 0 false))))]
abbrev oXz_1:OLq:=[Jl 10 3,Jq 11 (.call (.k (.c (.fn fX26 [] []))) [.t 10]),Jq 7 (.new 25 (.c (.sl none 0 0 false))),Kq (.st 1 (.t 7) (.t 11))]
abbrev oXz_2:OLq:=[Jl 12 4,Jq 13 (.bin .lss (.t 12) (Jk (-32))),Jm 14 13,⟨(some 15),.ld none (.t 4),some (14,false)⟩,⟨(some 16),.ld none (.t 3),some (14,false)⟩,⟨(some 17),.len false (.t 16),some (14,false)⟩,⟨(some 18),.bin .mul (Jk 8) (.t 17),some (14,false)⟩,⟨(some 19),.bin .gtr (.t 15) (.t 18),some (14,false)⟩,Jq 20 (.pick (.t 14) (.k (.c (.bool true))) (.t 19))]
abbrev oXz_3:OLq:=[Jl 21 7,Jm 6 21]
abbrev oXz_4:OLq:=[Jm 22 2,Jq 23 (.call (.k (.c (.fn fX10 [] []))) [.t 22])]
abbrev oXz_5:OLq:=[Jm 8 24]
abbrev oXz_6:OLq:=[Jl 25 4,Jm 26 8,Jq 27 (.bin .add (.t 25) (.t 26)),Jm 9 27]
abbrev oXz_7:OLq:=[Jm 28 9,Jq 29 (.bin .geq (.t 28) (Jk 0)),Jm 30 29,⟨(some 31),.mv (.t 9),some (30,true)⟩,⟨(some 32),.ld none (.t 3),some (30,true)⟩,⟨(some 33),.len false (.t 32),some (30,true)⟩,⟨(some 34),.bin .mul (Jk 8) (.t 33),some (30,true)⟩,⟨(some 35),.bin .lss (.t 31) (.t 34),some (30,true)⟩,Jq 36 (.pick (.t 30) (.t 35) (.k (.c (.bool false))))]
abbrev oXz_8:OLq:=[Jl 37 7,Jm 38 9,Jq 39 (.bin .quo (.t 38) (Jk 8)),Ji 40 1 37 39,Jl 41 40,Jm 42 9,Jq 43 (.bin .rem (.t 42) (Jk 8)),Jq 44 (.bin .shl (.k (.c (.int .u8 1))) (.t 43)),Jq 45 (.bin .xor (.t 41) (.t 44)),Ji 46 1 37 39,Kq (.st 1 (.t 46) (.t 45))]
def aXz_9:IC:=(.ops oXz_5)
def bXz_10:IC:=(.block 1 (.seq (.ops oXz_6) (.seq (.ops oXz_7) (.cond (.t 36) (.ops oXz_8) .skip))))
abbrev oXz_11:OLq:=[Jl 47 7,Jm 6 47]
def cXz:IC:=(.seq (.ops oXz_0) (.seq (.ops oXz_1) (.seq (.seq (.ops oXz_2) (.cond (.t 20) (.seq (.ops oXz_3) .ret) .skip)) (.seq (.seq (.ops oXz_4) (.block 0 (.rangeF (.t 23) [24] aXz_9 bXz_10))) (.seq (.ops oXz_11) .ret)))))
def iXz:IFn:=⟨48,cXz,[(6,none)]⟩
-- F 40 rota/rotaref07.New: bads 0, calls [56]
abbrev oX1w_0:OLq:=[Jq 1 (.box 39 (.t 0)),Jq 2 (.new 75 (.agg [(.sl none 0 0 false),(.int .u64 0),(.int .u64 0)])),Jq 3 (.mv (Jk 0))]
abbrev oX1w_1:OLq:=[Jq 5 (.ld (some 12) (.t 1)),Jq 6 (.call (.k (.c (.fn fX1c [] []))) [.t 5]),Jm 4 6]
abbrev oX1w_2:OLq:=[Jm 7 4,Jq 8 (.bin .neq (.t 7) (Jk 0))]
abbrev oX1w_3:OLq:=[Jq 9 (.build [(.sl none 0 0 false),(.int .u64 0),(.int .u64 0)] []),Jm 10 4,Kq (.st 3 (.t 2) (.t 9)),Jm 3 10]
abbrev oX1w_4:OLq:=[Jf 11 1 1,Jl 12 11,Jq 13 (.build [(.sl none 0 0 false),(.int .u64 0),(.int .u64 0)] [(0,1,(.t 12))]),Kq (.st 3 (.t 2) (.t 13)),Jq 3 (.mv (Jk 0))]
def cX1w:IC:=(.seq (.ops oX1w_0) (.seq (.ops oX1w_1) (.seq (.seq (.ops oX1w_2) (.cond (.t 8) (.seq (.ops oX1w_3) .ret) .skip)) (.seq (.ops oX1w_4) .ret))))
def iX1w:IFn:=⟨14,cX1w,[(2,(some (some 3))),(3,none)]⟩
-- F 41 (*rota/rotaref07.Bus).Carry: bads 0, calls [57, 58, 59]
abbrev oX1t_0:OLq:=[Jq 8 (.mv (.k (.c (.sl none 0 0 false)))),Jq 9 (.mv (.k (.c (.sl none 0 0 false)))),Jq 10 (.mv (Jk 0))]
abbrev oX1t_1:OLq:=[Jm 19 1,Jq 20 (.bin .lss (.t 19) (Jk 0))]
abbrev oX1t_2:OLq:=[Jq 8 (.mv (.k (.c (.sl none 0 0 false)))),Jq 9 (.mv (.k (.c (.sl none 0 0 false)))),Jq 10 (.mv (Jk 2))]
abbrev oX1t_3:OLq:=[Jm 22 0,Jm 23 1,Jm 24 2,Jq 25 (.call (.k (.c (.fn fX1u [] []))) [.t 22,.t 23,.t 24]),Jm 21 25,Jx 26 21 0,Jx 27 21 1,Jm 11 26,Jm 12 27]
abbrev oX1t_4:OLq:=[Jq 13 (.mv (.k (.c (.sl none 0 0 false))))]
abbrev oX1t_5:OLq:=[Jq 14 (.mv (.k (.c (.sl none 0 0 false))))]
abbrev oX1t_6:OLq:=[Jq 15 (.mv (Jk 0))]
abbrev oX1t_7:OLq:=[Jm 28 15,Jm 29 0,Jn 30 29,Jf 31 0 30,Jl 32 31,Je 33 32,Jq 34 (.bin .lss (.t 28) (.t 33))]
abbrev oX1t_8:OLq:=[Jq 37 (.build [(.int .i64 0),(.int .i64 0),(.int .u32 0)] []),Jq 16 (.new 65 (.agg [(.int .i64 0),(.int .i64 0),(.int .u32 0)])),Kq (.st 3 (.t 16) (.t 37))]
abbrev oX1t_9:OLq:=[Jm 38 15,Jm 39 3,Je 40 39,Jq 41 (.bin .lss (.t 38) (.t 40)),Jm 42 41,⟨(some 43),.mv (.t 15),some (42,true)⟩,⟨(some 44),.mv (.t 0),some (42,true)⟩,⟨(some 45),.mv (.t 1),some (42,true)⟩,⟨(some 46),.call (.k (.c (.fn fX1v [] []))) [.t 44,.t 45],some (42,true)⟩,⟨(some 47),.bin .neq (.t 43) (.t 46),some (42,true)⟩,Jq 48 (.pick (.t 42) (.t 47) (.k (.c (.bool false))))]
abbrev oX1t_10:OLq:=[Jm 49 3,Jm 50 15,Ji 51 3 49 50,Jq 52 (.ld (some 3) (.t 51)),Kq (.st 3 (.t 16) (.t 52))]
abbrev oX1t_11:OLq:=[Jm 53 11,Jm 17 53]
abbrev oX1t_12:OLq:=[Jf 54 0 16,Jl 55 54,Jq 56 (.bin .eql (.t 55) (Jk 2))]
abbrev oX1t_13:OLq:=[Jm 57 11,Jf 58 1 16,Jl 59 58,Jf 60 2 16,Jl 61 60,Jq 62 (.call (.k (.c (.fn fX1y [] []))) [.t 57,.t 59,.t 61]),Jm 17 62]
abbrev oX1t_14:OLq:=[Jm 63 12,Jm 64 63,⟨(some 65),.fa 0 (.t 16),some (64,true)⟩,⟨(some 66),.ld none (.t 65),some (64,true)⟩,⟨(some 67),.bin .neq (.t 66) (Jk 1),some (64,true)⟩,Jq 68 (.pick (.t 64) (.t 67) (.k (.c (.bool false)))),Jm 18 68]
abbrev oX1t_15:OLq:=[Jm 69 18,Jq 70 (.un .not (.t 69))]
abbrev oX1t_16:OLq:=[Jq 17 (.mv (.k (.c (.sl none 0 0 false))))]
abbrev oX1t_17:OLq:=[Jm 71 13,Jm 72 17,Jq 73 (.bsl 25 1 [(.sl none 0 0 false)] [(0,1,(.t 72))]),Jq 74 (.app 25 1 24 (.t 71) (.t 73)),Jm 13 74]
abbrev oX1t_18:OLq:=[Jm 75 14,Jm 76 18,Jq 77 (.bsl 4 1 [(.bool false)] [(0,1,(.t 76))]),Jq 78 (.app 4 1 1 (.t 75) (.t 77)),Jm 14 78]
abbrev oX1t_19:OLq:=[Jm 35 15,Jq 36 (.bin .add (.t 35) (Jk 1)),Jm 15 36]
def bX1t_20:IC:=(.seq (.seq (.ops oX1t_7) (.cond (.t 34) .skip (.exit 0))) (.seq (.block 1 (.seq (.ops oX1t_8) (.seq (.seq (.ops oX1t_9) (.cond (.t 48) (.ops oX1t_10) .skip)) (.seq (.ops oX1t_11) (.seq (.seq (.ops oX1t_12) (.cond (.t 56) (.ops oX1t_13) .skip)) (.seq (.ops oX1t_14) (.seq (.seq (.ops oX1t_15) (.cond (.t 70) (.ops oX1t_16) .skip)) (.seq (.ops oX1t_17) (.ops oX1t_18))))))))) (.ops oX1t_19)))
abbrev oX1t_21:OLq:=[Jm 79 13,Jm 80 14,Jm 8 79,Jm 9 80,Jq 10 (.mv (Jk 0))]
def cX1t:IC:=(.seq (.ops oX1t_0) (.seq (.seq (.ops oX1t_1) (.cond (.t 20) (.seq (.ops oX1t_2) .ret) .skip)) (.seq (.ops oX1t_3) (.seq (.ops oX1t_4) (.seq (.ops oX1t_5) (.seq (.seq (.ops oX1t_6) (.block 0 (.loop bX1t_20))) (.seq (.ops oX1t_21) .ret)))))))
def iX1t:IFn:=⟨81,cX1t,[(8,none),(9,none),(10,none)]⟩
-- F 42 (*rota/bus.Bus).Blocked: bads 0, calls [60]
abbrev oX4_0:OLq:=[Jq 2 (.mv (.k (.c (.int .u64 0))))]
abbrev oX4_1:OLq:=[Jm 3 0,Jq 4 (.eq .ptr false (.t 3) (.k (.c (.ptr none))))]
abbrev oX4_2:OLq:=[Jq 2 (.mv (.k (.c (.int .u64 0))))]
abbrev oX4_3:OLq:=[Jm 5 0,Jn 6 5,Jf 7 1 6,Jq 8 (.call (.k (.c (.fn fX3 [] []))) [.t 7]),Jm 2 8]
def cX4:IC:=(.seq (.ops oX4_0) (.seq (.seq (.ops oX4_1) (.cond (.t 4) (.seq (.ops oX4_2) .ret) .skip)) (.seq (.ops oX4_3) .ret)))
def iX4:IFn:=⟨9,cX4,[(2,none)]⟩
-- F 43 rota/frame.read: bads 0, calls [61, 61]
abbrev oX14_0:OLq:=[Jq 2 (.new 29 (.agg (List.replicate 2 (.int .i64 0)++[(.int .u16 0)]++List.replicate 64 (.int .u8 0)))),Jq 3 (.mv (.k (.c (.bool false))))]
abbrev oX14_1:OLq:=[Jm 5 0,Je 6 5,Jq 7 (.bin .neq (.t 6) (Jk 75)),Jm 8 7,⟨(some 9),.mv (.t 0),some (8,false)⟩,⟨(some 10),.iaS 1 (.t 9) (Jk 6),some (8,false)⟩,⟨(some 11),.ld none (.t 10),some (8,false)⟩,⟨(some 12),.bin .geq (.t 11) (.k (.c (.int .u8 16))),some (8,false)⟩,Jq 13 (.pick (.t 8) (.k (.c (.bool true))) (.t 12)),Jm 14 13,⟨(some 15),.mv (.t 0),some (14,false)⟩,⟨(some 16),.iaS 1 (.t 15) (Jk 0),some (14,false)⟩,⟨(some 17),.ld none (.t 16),some (14,false)⟩,⟨(some 18),.bin .gtr (.t 17) (.k (.c (.int .u8 127))),some (14,false)⟩,Jq 19 (.pick (.t 14) (.k (.c (.bool true))) (.t 18))]
abbrev oX14_2:OLq:=[Jq 20 (.build (List.replicate 2 (.int .i64 0)++[(.int .u16 0)]++List.replicate 64 (.int .u8 0)) []),Kq (.st 67 (.t 2) (.t 20)),Jq 3 (.mv (.k (.c (.bool false))))]
abbrev oX14_3:OLq:=[Jm 28 0,Jq 29 (.slS 1 (.t 28) (some (Jk 4)) (some (Jk 6)) none),Jm 25 0,Jq 26 (.slS 1 (.t 25) none (some (Jk 4)) none),Jm 21 0,Jq 22 (.iaS 1 (.t 21) (Jk 6)),Jl 23 22,Jq 24 (.cv .i64 (.t 23)),Jq 27 (.call (.k (.c (.fn fX13 [] []))) [.t 26]),Kq (.same (some none) (.t 22) (.t 23)),Jq 30 (.call (.k (.c (.fn fX13 [] []))) [.t 29]),Kq (.same (some none) (.t 22) (.t 23)),Jq 31 (.cv .u16 (.t 30)),Jq 32 (.build [(.int .i64 0),(.int .u16 0)] [(0,1,(.t 27)),(1,1,(.t 31))]),Jq 33 (.build (List.replicate 2 (.int .i64 0)++[(.int .u16 0)]++List.replicate 64 (.int .u8 0)) [(0,1,(.t 24)),(1,2,(.t 32))]),Jq 4 (.new 29 (.agg (List.replicate 2 (.int .i64 0)++[(.int .u16 0)]++List.replicate 64 (.int .u8 0)))),Kq (.st 67 (.t 4) (.t 33))]
abbrev oX14_4:OLq:=[Jf 34 3 4,Jq 35 (.slA 64 1 (.t 34) none none none),Jm 36 0,Jq 37 (.slS 1 (.t 36) (some (Jk 7)) (some (Jk 71)) none),Jq 38 (.cpy 1 (.t 35) (.t 37))]
abbrev oX14_5:OLq:=[Jq 39 (.ld (some 67) (.t 4)),Kq (.st 67 (.t 2) (.t 39)),Jq 3 (.mv (.k (.c (.bool true))))]
def cX14:IC:=(.seq (.ops oX14_0) (.seq (.seq (.ops oX14_1) (.cond (.t 19) (.seq (.ops oX14_2) .ret) .skip)) (.seq (.ops oX14_3) (.seq (.ops oX14_4) (.seq (.ops oX14_5) .ret)))))
def iX14:IFn:=⟨40,cX14,[(2,(some (some 67))),(3,none)]⟩
-- F 44 rota/frame.checked: bads 0, calls []
abbrev oX12_0:OLq:=[Jq 4 (.mv (.k (.c (.bool false))))]
abbrev oX12_1:OLq:=[Jm 5 0,Jq 6 (.iaS 1 (.t 5) (Jk 71)),Jl 7 6,Jm 8 1,Jq 9 (.cv .u8 (.t 8)),Jq 10 (.bin .eql (.t 7) (.t 9)),Jm 11 10,⟨(some 12),.mv (.t 0),some (11,true)⟩,⟨(some 13),.iaS 1 (.t 12) (Jk 72),some (11,true)⟩,⟨(some 14),.ld none (.t 13),some (11,true)⟩,⟨(some 15),.mv (.t 1),some (11,true)⟩,⟨(some 16),.bin .shr (.t 15) (.k (.c (.int .u64 8))),some (11,true)⟩,⟨(some 17),.cv .u8 (.t 16),some (11,true)⟩,⟨(some 18),.bin .eql (.t 14) (.t 17),some (11,true)⟩,Jq 19 (.pick (.t 11) (.t 18) (.k (.c (.bool false)))),Jm 20 19,⟨(some 21),.mv (.t 0),some (20,true)⟩,⟨(some 22),.iaS 1 (.t 21) (Jk 73),some (20,true)⟩,⟨(some 23),.ld none (.t 22),some (20,true)⟩,⟨(some 24),.mv (.t 1),some (20,true)⟩,⟨(some 25),.bin .shr (.t 24) (.k (.c (.int .u64 16))),some (20,true)⟩,⟨(some 26),.cv .u8 (.t 25),some (20,true)⟩,⟨(some 27),.bin .eql (.t 23) (.t 26),some (20,true)⟩,Jq 28 (.pick (.t 20) (.t 27) (.k (.c (.bool false)))),Jm 29 28,⟨(some 30),.mv (.t 0),some (29,true)⟩,⟨(some 31),.iaS 1 (.t 30) (Jk 74),some (29,true)⟩,⟨(some 32),.ld none (.t 31),some (29,true)⟩,⟨(some 33),.mv (.t 1),some (29,true)⟩,⟨(some 34),.bin .shr (.t 33) (.k (.c (.int .u64 24))),some (29,true)⟩,⟨(some 35),.cv .u8 (.t 34),some (29,true)⟩,⟨(some 36),.bin .eql (.t 32) (.t 35),some (29,true)⟩,Jq 37 (.pick (.t 29) (.t 36) (.k (.c (.bool false)))),Jm 4 37]
def cX12:IC:=(.seq (.ops oX12_0) (.seq (.ops oX12_1) .ret))
def iX12:IFn:=⟨38,cX12,[(4,none)]⟩
-- F 45 rota/sum.More: bads 0, calls []
abbrev oX2b_0:OLq:=[Jq 4 (.mv (.k (.c (.int .u32 0))))]
abbrev oX2b_1:OLq:=[Jm 8 0,Jq 9 (.un .xor (.t 8)),Jm 5 9]
abbrev oX2b_2:OLq:=[Jm 10 1,Je 11 10,Jq 12 (.mv (Jk 0))]
abbrev oX2b_3:OLq:=[Jq 13 (.bin .lss (.t 12) (.t 11))]
abbrev oX2b_4:OLq:=[Ji 14 1 10 12,Jl 15 14,Jm 7 15]
abbrev oX2b_5:OLq:=[Jm 16 5,Jm 17 7,Jq 18 (.cv .u32 (.t 17)),Jq 19 (.bin .xor (.t 16) (.t 18)),Jm 5 19]
abbrev oX2b_6:OLq:=[Jm 20 5,Jq 21 (.bin .shr (.t 20) (.k (.c (.int .u64 4)))),Jm 22 5,Jq 23 (.bin .and (.t 22) (.k (.c (.int .u32 15)))),Jq 24 (.iaA 16 1 (.k (.c (.ptr (some (0,0))))) (.t 23)),Jl 25 24,Jq 26 (.bin .xor (.t 21) (.t 25)),Jm 5 26]
abbrev oX2b_7:OLq:=[Jm 27 5,Jq 28 (.bin .shr (.t 27) (.k (.c (.int .u64 4)))),Jm 29 5,Jq 30 (.bin .and (.t 29) (.k (.c (.int .u32 15)))),Jq 31 (.iaA 16 1 (.k (.c (.ptr (some (0,0))))) (.t 30)),Jl 32 31,Jq 33 (.bin .xor (.t 28) (.t 32)),Jm 5 33]
abbrev oX2b_8:OLq:=[Jq 34 (.bin .add (.t 12) (Jk 1)),Jm 12 34]
def bX2b_9:IC:=(.seq (.ops oX2b_3) (.seq (.cond (.t 13) .skip (.exit 0)) (.seq (.block 1 (.seq (.ops oX2b_4) (.seq (.ops oX2b_5) (.seq (.ops oX2b_6) (.ops oX2b_7))))) (.ops oX2b_8))))
abbrev oX2b_10:OLq:=[Jm 35 5,Jq 36 (.un .xor (.t 35)),Jm 4 36]
def cX2b:IC:=(.seq (.ops oX2b_0) (.seq (.ops oX2b_1) (.seq (.seq (.ops oX2b_2) (.block 0 (.loop bX2b_9))) (.seq (.ops oX2b_10) .ret))))
def iX2b:IFn:=⟨37,cX2b,[(4,none)]⟩
-- F 46 rota/rotaref03.told: bads 0, calls []
abbrev oX1s_0:OLq:=[Jq 2 (.new 29 (.agg (List.replicate 2 (.int .i64 0)++[(.int .u16 0)]++List.replicate 64 (.int .u8 0)))),Jq 3 (.mv (.k (.c (.bool false))))]
abbrev oX1s_1:OLq:=[Jm 6 0,Je 7 6,Jq 8 (.bin .neq (.t 7) (Jk 75)),Jm 9 8,⟨(some 10),.mv (.t 0),some (9,false)⟩,⟨(some 11),.iaS 1 (.t 10) (Jk 6),some (9,false)⟩,⟨(some 12),.ld none (.t 11),some (9,false)⟩,⟨(some 13),.bin .gtr (.t 12) (.k (.c (.int .u8 15))),some (9,false)⟩,Jq 14 (.pick (.t 9) (.k (.c (.bool true))) (.t 13)),Jm 15 14,⟨(some 16),.mv (.t 0),some (15,false)⟩,⟨(some 17),.iaS 1 (.t 16) (Jk 0),some (15,false)⟩,⟨(some 18),.ld none (.t 17),some (15,false)⟩,⟨(some 19),.bin .gtr (.t 18) (.k (.c (.int .u8 127))),some (15,false)⟩,Jq 20 (.pick (.t 15) (.k (.c (.bool true))) (.t 19))]
abbrev oX1s_2:OLq:=[Jq 21 (.build (List.replicate 2 (.int .i64 0)++[(.int .u16 0)]++List.replicate 64 (.int .u8 0)) []),Kq (.st 67 (.t 2) (.t 21)),Jq 3 (.mv (.k (.c (.bool false))))]
abbrev oX1s_3:OLq:=[Jm 22 0,Jq 23 (.iaS 1 (.t 22) (Jk 6)),Jl 24 23,Jq 25 (.cv .i64 (.t 24)),Jq 26 (.build (List.replicate 2 (.int .i64 0)++[(.int .u16 0)]++List.replicate 64 (.int .u8 0)) [(0,1,(.t 25))]),Jq 4 (.new 29 (.agg (List.replicate 2 (.int .i64 0)++[(.int .u16 0)]++List.replicate 64 (.int .u8 0)))),Kq (.st 67 (.t 4) (.t 26))]
abbrev oX1s_4:OLq:=[Jm 27 0,Jq 28 (.iaS 1 (.t 27) (Jk 0)),Jl 29 28,Jq 30 (.cv .i64 (.t 29)),Jq 31 (.bin .mul (.t 30) (Jk 256)),Jm 32 0,Jq 33 (.iaS 1 (.t 32) (Jk 1)),Jl 34 33,Jq 35 (.cv .i64 (.t 34)),Jq 36 (.bin .add (.t 31) (.t 35)),Jq 37 (.bin .mul (.t 36) (Jk 256)),Jm 38 0,Jq 39 (.iaS 1 (.t 38) (Jk 2)),Jl 40 39,Jq 41 (.cv .i64 (.t 40)),Jq 42 (.bin .add (.t 37) (.t 41)),Jq 43 (.bin .mul (.t 42) (Jk 256)),Jm 44 0,Jq 45 (.iaS 1 (.t 44) (Jk 3)),Jl 46 45,Jq 47 (.cv .i64 (.t 46)),Jq 48 (.bin .add (.t 43) (.t 47)),Jf 49 1 4,Jf 50 0 49,Kq (.st 1 (.t 50) (.t 48))]
abbrev oX1s_5:OLq:=[Jm 51 0,Jq 52 (.iaS 1 (.t 51) (Jk 4)),Jl 53 52,Jq 54 (.cv .u16 (.t 53)),Jq 55 (.bin .mul (.t 54) (.k (.c (.int .u16 256)))),Jm 56 0,Jq 57 (.iaS 1 (.t 56) (Jk 5)),Jl 58 57,Jq 59 (.cv .u16 (.t 58)),Jq 60 (.bin .add (.t 55) (.t 59)),Jf 61 1 4,Jf 62 1 61,Kq (.st 1 (.t 62) (.t 60))]
abbrev oX1s_6:OLq:=[Jq 5 (.mv (Jk 0))]
abbrev oX1s_7:OLq:=[Jm 63 5,Jq 64 (.bin .lss (.t 63) (Jk 64))]
abbrev oX1s_8:OLq:=[Jm 67 5,Jm 68 0,Jm 69 5,Jq 70 (.bin .add (Jk 7) (.t 69)),Ji 71 1 68 70,Jl 72 71,Jf 73 3 4,Jq 74 (.iaA 64 1 (.t 73) (.t 67)),Kq (.st 1 (.t 74) (.t 72))]
abbrev oX1s_9:OLq:=[Jm 65 5,Jq 66 (.bin .add (.t 65) (Jk 1)),Jm 5 66]
def bX1s_10:IC:=(.seq (.seq (.ops oX1s_7) (.cond (.t 64) .skip (.exit 0))) (.seq (.block 1 (.ops oX1s_8)) (.ops oX1s_9)))
abbrev oX1s_11:OLq:=[Jq 75 (.ld (some 67) (.t 4)),Kq (.st 67 (.t 2) (.t 75)),Jq 3 (.mv (.k (.c (.bool true))))]
def cX1s:IC:=(.seq (.ops oX1s_0) (.seq (.seq (.ops oX1s_1) (.cond (.t 20) (.seq (.ops oX1s_2) .ret) .skip)) (.seq (.ops oX1s_3) (.seq (.ops oX1s_4) (.seq (.ops oX1s_5) (.seq (.seq (.ops oX1s_6) (.block 0 (.loop bX1s_10))) (.seq (.ops oX1s_11) .ret)))))))
def iX1s:IFn:=⟨76,cX1s,[(2,(some (some 67))),(3,none)]⟩
-- F 47 rota/rotaref03.State: bads 0, calls []
abbrev oX1q_0:OLq:=[Jq 1 (.box 24 (.t 0)),Jq 2 (.mv (.k (.c (.sl none 0 0 false))))]
abbrev oX1q_1:OLq:=[Jf 4 0 1,Jl 5 4,Jq 6 (.cv .u32 (.t 5)),Jm 3 6]
abbrev oX1q_2:OLq:=[Jm 7 3,Jq 8 (.bin .quo (.t 7) (.k (.c (.int .u32 16777216)))),Jq 9 (.cv .u8 (.t 8)),Jm 10 3,Jq 11 (.bin .quo (.t 10) (.k (.c (.int .u32 65536)))),Jq 12 (.bin .rem (.t 11) (.k (.c (.int .u32 256)))),Jq 13 (.cv .u8 (.t 12)),Jm 14 3,Jq 15 (.bin .quo (.t 14) (.k (.c (.int .u32 256)))),Jq 16 (.bin .rem (.t 15) (.k (.c (.int .u32 256)))),Jq 17 (.cv .u8 (.t 16)),Jm 18 3,Jq 19 (.bin .rem (.t 18) (.k (.c (.int .u32 256)))),Jq 20 (.cv .u8 (.t 19)),Jf 21 1 1,Jl 22 21,Jq 23 (.bin .quo (.t 22) (.k (.c (.int .u16 256)))),Jq 24 (.cv .u8 (.t 23)),Jf 25 1 1,Jl 26 25,Jq 27 (.bin .rem (.t 26) (.k (.c (.int .u16 256)))),Jq 28 (.cv .u8 (.t 27)),Jq 29 (.bsl 5 6 (List.replicate 6 (.int .u8 0)) [(0,1,(.t 9)),(1,1,(.t 13)),(2,1,(.t 17)),(3,1,(.t 20)),(4,1,(.t 24)),(5,1,(.t 28))]),Jm 2 29]
def cX1q:IC:=(.seq (.ops oX1q_0) (.seq (.ops oX1q_1) (.seq (.ops oX1q_2) .ret)))
def iX1q:IFn:=⟨30,cX1q,[(2,none)]⟩
-- F 48 rota/rotaref03.sealed: bads 0, calls [62]
abbrev oX1r_0:OLq:=[Jq 4 (.mv (.k (.c (.bool false))))]
abbrev oX1r_1:OLq:=[Jm 6 1,Jq 7 (.call (.k (.c (.fn fX19 [] []))) [.t 6]),Jm 5 7]
abbrev oX1r_2:OLq:=[Jm 8 0,Jq 9 (.iaS 1 (.t 8) (Jk 71)),Jl 10 9,Jm 11 5,Jq 12 (.bin .rem (.t 11) (.k (.c (.int .u32 256)))),Jq 13 (.cv .u8 (.t 12)),Jq 14 (.bin .eql (.t 10) (.t 13)),Jm 15 14,⟨(some 16),.mv (.t 0),some (15,true)⟩,⟨(some 17),.iaS 1 (.t 16) (Jk 72),some (15,true)⟩,⟨(some 18),.ld none (.t 17),some (15,true)⟩,⟨(some 19),.mv (.t 5),some (15,true)⟩,⟨(some 20),.bin .quo (.t 19) (.k (.c (.int .u32 256))),some (15,true)⟩,⟨(some 21),.bin .rem (.t 20) (.k (.c (.int .u32 256))),some (15,true)⟩,⟨(some 22),.cv .u8 (.t 21),some (15,true)⟩,⟨(some 23),.bin .eql (.t 18) (.t 22),some (15,true)⟩,Jq 24 (.pick (.t 15) (.t 23) (.k (.c (.bool false)))),Jm 25 24,⟨(some 26),.mv (.t 0),some (25,true)⟩,⟨(some 27),.iaS 1 (.t 26) (Jk 73),some (25,true)⟩,⟨(some 28),.ld none (.t 27),some (25,true)⟩,⟨(some 29),.mv (.t 5),some (25,true)⟩,⟨(some 30),.bin .quo (.t 29) (.k (.c (.int .u32 65536))),some (25,true)⟩,⟨(some 31),.bin .rem (.t 30) (.k (.c (.int .u32 256))),some (25,true)⟩,⟨(some 32),.cv .u8 (.t 31),some (25,true)⟩,⟨(some 33),.bin .eql (.t 28) (.t 32),some (25,true)⟩,Jq 34 (.pick (.t 25) (.t 33) (.k (.c (.bool false)))),Jm 35 34,⟨(some 36),.mv (.t 0),some (35,true)⟩,⟨(some 37),.iaS 1 (.t 36) (Jk 74),some (35,true)⟩,⟨(some 38),.ld none (.t 37),some (35,true)⟩,⟨(some 39),.mv (.t 5),some (35,true)⟩,⟨(some 40),.bin .quo (.t 39) (.k (.c (.int .u32 16777216))),some (35,true)⟩,⟨(some 41),.cv .u8 (.t 40),some (35,true)⟩,⟨(some 42),.bin .eql (.t 38) (.t 41),some (35,true)⟩,Jq 43 (.pick (.t 35) (.t 42) (.k (.c (.bool false)))),Jm 4 43]
def cX1r:IC:=(.seq (.ops oX1r_0) (.seq (.ops oX1r_1) (.seq (.ops oX1r_2) .ret)))
def iX1r:IFn:=⟨44,cX1r,[(4,none)]⟩
-- F 49 rota/config.Check: bads 0, calls [63]
abbrev oXb_0:OLq:=[Jq 1 (.box 39 (.t 0)),Jq 2 (.mv (Jk 0))]
abbrev oXb_1:OLq:=[Jq 3 (.mv (Jk 21))]
abbrev oXb_2:OLq:=[Jm 4 3,Jq 5 (.bin .leq (.t 4) (Jk 26))]
abbrev oXb_3:OLq:=[Jm 8 3,Jq 9 (.ld (some 12) (.t 1)),Jq 10 (.call (.k (.c (.fn fXf [] []))) [.t 8,.t 9]),Jq 11 (.un .not (.t 10))]
abbrev oXb_4:OLq:=[Jm 12 3,Jm 2 12]
abbrev oXb_5:OLq:=[Jm 6 3,Jq 7 (.bin .add (.t 6) (Jk 1)),Jm 3 7]
def bXb_6:IC:=(.seq (.seq (.ops oXb_2) (.cond (.t 5) .skip (.exit 0))) (.seq (.block 1 (.seq (.ops oXb_3) (.cond (.t 11) (.seq (.ops oXb_4) .ret) .skip))) (.ops oXb_5)))
abbrev oXb_7:OLq:=[Jq 2 (.mv (Jk 0))]
def cXb:IC:=(.seq (.ops oXb_0) (.seq (.seq (.ops oXb_1) (.block 0 (.loop bXb_6))) (.seq (.ops oXb_7) .ret)))
def iXb:IFn:=⟨13,cXb,[(2,none)]⟩
-- F 50 slices.Clone[[]int,int]: bads 0, calls []
abbrev oX27_0:OLq:=[Jq 2 (.mv (.k (.c (.sl none 0 0 false))))]
abbrev oX27_1:OLq:=[Jm 3 0,Jq 4 (.eq .sl false (.t 3) (.k (.c (.sl none 0 0 false))))]
abbrev oX27_2:OLq:=[Jq 2 (.mv (.k (.c (.sl none 0 0 false))))]
abbrev oX27_3:OLq:=[Jq 5 (.bsl 3 0 [] []),Jm 6 0,Jq 7 (.app 3 1 8 (.t 5) (.t 6)),Jm 2 7]
def cX27:IC:=(.seq (.ops oX27_0) (.seq (.seq (.ops oX27_1) (.cond (.t 4) (.seq (.ops oX27_2) .ret) .skip)) (.seq (.ops oX27_3) .ret)))
def iX27:IFn:=⟨8,cX27,[(2,none)]⟩
-- F 51 (*rota/bus.Bus).pass: bads 0, calls [53, 65, 64, 66, 66, 66]
abbrev oX8_0:OLq:=[Jq 6 (.mv (.k (.c (.sl none 0 0 false)))),Jq 7 (.mv (.k (.c (.bool false))))]
abbrev oX8_1:OLq:=[Jm 10 0,Jq 11 (.eq .ptr false (.t 10) (.k (.c (.ptr none))))]
abbrev oX8_2:OLq:=[Jq 6 (.mv (.k (.c (.sl none 0 0 false)))),Jq 7 (.mv (.k (.c (.bool false))))]
abbrev oX8_3:OLq:=[Jm 12 0,Jm 13 1,Jq 14 (.call (.k (.c (.fn fX7 [] []))) [.t 12,.t 13]),Jq 8 (.new 3 (.c (.int .i64 0))),Kq (.st 1 (.t 8) (.t 14))]
abbrev oX8_4:OLq:=[Jm 15 2,Jq 16 (.mkfn fX9 [] [.t 8]),Jq 17 (.call (.k (.c (.fn fX29 [] []))) [.t 15,.t 16]),Jm 9 17]
abbrev oX8_5:OLq:=[Jm 18 9,Jq 19 (.bin .lss (.t 18) (Jk 0))]
abbrev oX8_6:OLq:=[Jm 20 0,Jn 21 20,Jf 22 1 21,Jm 23 2,Je 24 23,Jq 25 (.cv .u64 (.t 24)),Jq 26 (.call (.k (.c (.fn fX2 [] []))) [.t 22,.t 25])]
abbrev oX8_7:OLq:=[Jq 6 (.mv (.k (.c (.sl none 0 0 false)))),Jq 7 (.mv (.k (.c (.bool false))))]
abbrev oX8_8:OLq:=[Jm 27 0,Jn 28 27,Jf 29 1 28,Jm 30 2,Je 31 30,Jq 32 (.bin .sub (.t 31) (Jk 1)),Jq 33 (.cv .u64 (.t 32)),Jq 34 (.call (.k (.c (.fn fX2 [] []))) [.t 29,.t 33])]
abbrev oX8_9:OLq:=[Jm 35 0,Jn 36 35,Jf 37 2 36,Jq 38 (.call (.k (.c (.fn fX2 [] []))) [.t 37,(.k (.c (.int .u64 1)))])]
abbrev oX8_10:OLq:=[Jm 39 2,Jm 40 9,Ji 41 2 39 40,Jf 42 1 41,Jl 43 42,Jm 6 43,Jq 7 (.mv (.k (.c (.bool true))))]
def cX8:IC:=(.seq (.ops oX8_0) (.seq (.seq (.ops oX8_1) (.cond (.t 11) (.seq (.ops oX8_2) .ret) .skip)) (.seq (.ops oX8_3) (.seq (.ops oX8_4) (.seq (.seq (.ops oX8_5) (.cond (.t 19) (.seq (.ops oX8_6) (.seq (.ops oX8_7) .ret)) .skip)) (.seq (.ops oX8_8) (.seq (.ops oX8_9) (.seq (.ops oX8_10) .ret))))))))
def iX8:IFn:=⟨44,cX8,[(6,none),(7,none)]⟩
-- F 52 (*rota/bus.Bus).Carry$1: bads 0, calls []
abbrev oX6_0:OLq:=[Jq 1 (.mv (.k (.c (.sl none 0 0 false))))]
abbrev oX6_1:OLq:=[Jq 2 (.bsl 5 0 [] []),Jl 3 0,Jq 4 (.app 5 1 1 (.t 2) (.t 3)),Jm 1 4]
def cX6:IC:=(.seq (.ops oX6_0) (.seq (.ops oX6_1) .ret))
def iX6:IFn:=⟨5,cX6,[(1,none)]⟩
-- F 53 (*rota/bus.Bus).owner: bads 0, calls []
abbrev oX7_0:OLq:=[Jq 4 (.mv (Jk 0))]
abbrev oX7_1:OLq:=[Jm 5 0,Jq 6 (.eq .ptr false (.t 5) (.k (.c (.ptr none)))),Jm 7 6,⟨(some 8),.mv (.t 1),some (7,false)⟩,⟨(some 9),.bin .lss (.t 8) (Jk 0),some (7,false)⟩,Jq 10 (.pick (.t 7) (.k (.c (.bool true))) (.t 9)),Jm 11 10,⟨(some 12),.mv (.t 0),some (11,false)⟩,⟨(some 13),.nilck (.t 12),some (11,false)⟩,⟨(some 14),.fa 0 (.t 13),some (11,false)⟩,⟨(some 15),.ld none (.t 14),some (11,false)⟩,⟨(some 16),.len false (.t 15),some (11,false)⟩,⟨(some 17),.bin .eql (.t 16) (Jk 0),some (11,false)⟩,Jq 18 (.pick (.t 11) (.k (.c (.bool true))) (.t 17))]
abbrev oX7_2:OLq:=[Jq 4 (.mv (Jk (-1)))]
abbrev oX7_3:OLq:=[Jm 19 0,Jn 20 19,Jf 21 0 20,Jl 22 21,Jm 23 1,Jm 24 0,Jn 25 24,Jf 26 0 25,Jl 27 26,Je 28 27,Jq 29 (.bin .rem (.t 23) (.t 28)),Ji 30 1 22 29,Jl 31 30,Jm 4 31]
def cX7:IC:=(.seq (.ops oX7_0) (.seq (.seq (.ops oX7_1) (.cond (.t 18) (.seq (.ops oX7_2) .ret) .skip)) (.seq (.ops oX7_3) .ret)))
def iX7:IFn:=⟨32,cX7,[(4,none)]⟩
-- F 54 slices.Clone[[]byte,byte]: bads 0, calls []
abbrev oX26_0:OLq:=[Jq 2 (.mv (.k (.c (.sl none 0 0 false))))]
abbrev oX26_1:OLq:=[Jm 3 0,Jq 4 (.eq .sl false (.t 3) (.k (.c (.sl none 0 0 false))))]
abbrev oX26_2:OLq:=[Jq 2 (.mv (.k (.c (.sl none 0 0 false))))]
abbrev oX26_3:OLq:=[Jq 5 (.bsl 5 0 [] []),Jm 6 0,Jq 7 (.app 5 1 1 (.t 5) (.t 6)),Jm 2 7]
def cX26:IC:=(.seq (.ops oX26_0) (.seq (.seq (.ops oX26_1) (.cond (.t 4) (.seq (.ops oX26_2) .ret) .skip)) (.seq (.ops oX26_3) .ret)))
def iX26:IFn:=⟨8,cX26,[(2,none)]⟩
-- F 55 rota/frame.bits: bads 0, calls [67]
abbrev oX10_0:OLq:=[Jq 1 (.box 63 (.t 0)),Jq 2 (.mv (.k (.c .nilFn)))]
abbrev oX10_1:OLq:=[Jq 3 (.mkfn fX11 [] [.t 1]),Jm 2 3]
def cX10:IC:=(.seq (.ops oX10_0) (.seq (.ops oX10_1) .ret))
def iX10:IFn:=⟨4,cX10,[(2,none)]⟩
-- F 56 rota/rotaref02.Check: bads 0, calls [68, 69, 70, 71, 72, 73]
abbrev oX1c_0:OLq:=[Jq 1 (.box 39 (.t 0)),Jq 2 (.mv (Jk 0))]
abbrev oX1c_1:OLq:=[Jq 3 (.ld (some 12) (.t 1)),Jq 4 (.call (.k (.c (.fn fX1l [] []))) [.t 3]),Jq 5 (.un .not (.t 4))]
abbrev oX1c_2:OLq:=[Jq 2 (.mv (Jk 21))]
abbrev oX1c_3:OLq:=[Jq 6 (.ld (some 12) (.t 1)),Jq 7 (.call (.k (.c (.fn fX1g [] []))) [.t 6]),Jq 8 (.un .not (.t 7))]
abbrev oX1c_4:OLq:=[Jq 2 (.mv (Jk 22))]
abbrev oX1c_5:OLq:=[Jq 9 (.ld (some 12) (.t 1)),Jq 10 (.call (.k (.c (.fn fX1m [] []))) [.t 9]),Jq 11 (.un .not (.t 10))]
abbrev oX1c_6:OLq:=[Jq 2 (.mv (Jk 23))]
abbrev oX1c_7:OLq:=[Jq 12 (.ld (some 12) (.t 1)),Jq 13 (.call (.k (.c (.fn fX1o [] []))) [.t 12]),Jq 14 (.un .not (.t 13))]
abbrev oX1c_8:OLq:=[Jq 2 (.mv (Jk 24))]
abbrev oX1c_9:OLq:=[Jq 15 (.ld (some 12) (.t 1)),Jq 16 (.call (.k (.c (.fn fX1n [] []))) [.t 15]),Jq 17 (.un .not (.t 16))]
abbrev oX1c_10:OLq:=[Jq 2 (.mv (Jk 25))]
abbrev oX1c_11:OLq:=[Jq 18 (.ld (some 12) (.t 1)),Jq 19 (.call (.k (.c (.fn fX1j [] []))) [.t 18]),Jq 20 (.un .not (.t 19))]
abbrev oX1c_12:OLq:=[Jq 2 (.mv (Jk 26))]
abbrev oX1c_13:OLq:=[Jq 2 (.mv (Jk 0))]
def cX1c:IC:=(.seq (.ops oX1c_0) (.seq (.seq (.ops oX1c_1) (.cond (.t 5) (.seq (.ops oX1c_2) .ret) .skip)) (.seq (.seq (.ops oX1c_3) (.cond (.t 8) (.seq (.ops oX1c_4) .ret) .skip)) (.seq (.seq (.ops oX1c_5) (.cond (.t 11) (.seq (.ops oX1c_6) .ret) .skip)) (.seq (.seq (.ops oX1c_7) (.cond (.t 14) (.seq (.ops oX1c_8) .ret) .skip)) (.seq (.seq (.ops oX1c_9) (.cond (.t 17) (.seq (.ops oX1c_10) .ret) .skip)) (.seq (.seq (.ops oX1c_11) (.cond (.t 20) (.seq (.ops oX1c_12) .ret) .skip)) (.seq (.ops oX1c_13) .ret))))))))
def iX1c:IFn:=⟨21,cX1c,[(2,none)]⟩
-- F 57 (*rota/rotaref07.Bus).Pass: bads 0, calls [58]
abbrev oX1u_0:OLq:=[Jq 6 (.mv (.k (.c (.sl none 0 0 false)))),Jq 7 (.mv (.k (.c (.bool false))))]
abbrev oX1u_1:OLq:=[Jm 10 0,Jm 11 1,Jq 12 (.call (.k (.c (.fn fX1v [] []))) [.t 10,.t 11]),Jm 8 12]
abbrev oX1u_2:OLq:=[Jq 9 (.mv (Jk 0))]
abbrev oX1u_3:OLq:=[Jm 13 9,Jm 14 2,Je 15 14,Jq 16 (.bin .lss (.t 13) (.t 15))]
abbrev oX1u_4:OLq:=[Jm 19 8,Jq 20 (.bin .geq (.t 19) (Jk 0)),Jm 21 20,⟨(some 22),.mv (.t 2),some (21,true)⟩,⟨(some 23),.mv (.t 9),some (21,true)⟩,⟨(some 24),.iaS 2 (.t 22) (.t 23),some (21,true)⟩,⟨(some 25),.fa 0 (.t 24),some (21,true)⟩,⟨(some 26),.ld none (.t 25),some (21,true)⟩,⟨(some 27),.mv (.t 8),some (21,true)⟩,⟨(some 28),.bin .eql (.t 26) (.t 27),some (21,true)⟩,Jq 29 (.pick (.t 21) (.t 28) (.k (.c (.bool false))))]
abbrev oX1u_5:OLq:=[Jm 30 0,Jn 31 30,Jf 32 2 31,Jl 33 32,Jq 34 (.bin .add (.t 33) (.k (.c (.int .u64 1)))),Jn 35 30,Jf 36 2 35,Kq (.st 1 (.t 36) (.t 34))]
abbrev oX1u_6:OLq:=[Jm 37 0,Jm 38 0,Jn 39 38,Jf 40 1 39,Jl 41 40,Jm 42 2,Je 43 42,Jq 44 (.bin .sub (.t 43) (Jk 1)),Jq 45 (.cv .u64 (.t 44)),Jq 46 (.bin .add (.t 41) (.t 45)),Jn 47 37,Jf 48 1 47,Kq (.st 1 (.t 48) (.t 46))]
abbrev oX1u_7:OLq:=[Jm 49 2,Jm 50 9,Ji 51 2 49 50,Jf 52 1 51,Jl 53 52,Jm 6 53,Jq 7 (.mv (.k (.c (.bool true))))]
abbrev oX1u_8:OLq:=[Jm 17 9,Jq 18 (.bin .add (.t 17) (Jk 1)),Jm 9 18]
def bX1u_9:IC:=(.seq (.seq (.ops oX1u_3) (.cond (.t 16) .skip (.exit 0))) (.seq (.block 1 (.seq (.ops oX1u_4) (.cond (.t 29) (.seq (.ops oX1u_5) (.seq (.ops oX1u_6) (.seq (.ops oX1u_7) .ret))) .skip))) (.ops oX1u_8)))
abbrev oX1u_10:OLq:=[Jm 54 0,Jm 55 0,Jn 56 55,Jf 57 1 56,Jl 58 57,Jm 59 2,Je 60 59,Jq 61 (.cv .u64 (.t 60)),Jq 62 (.bin .add (.t 58) (.t 61)),Jn 63 54,Jf 64 1 63,Kq (.st 1 (.t 64) (.t 62))]
abbrev oX1u_11:OLq:=[Jq 6 (.mv (.k (.c (.sl none 0 0 false)))),Jq 7 (.mv (.k (.c (.bool false))))]
def cX1u:IC:=(.seq (.ops oX1u_0) (.seq (.ops oX1u_1) (.seq (.seq (.ops oX1u_2) (.block 0 (.loop bX1u_9))) (.seq (.ops oX1u_10) (.seq (.ops oX1u_11) .ret)))))
def iX1u:IFn:=⟨65,cX1u,[(6,none),(7,none)]⟩
-- F 58 (*rota/rotaref07.Bus).owner: bads 0, calls []
abbrev oX1v_0:OLq:=[Jq 4 (.mv (Jk 0))]
abbrev oX1v_1:OLq:=[Jm 5 1,Jq 6 (.bin .lss (.t 5) (Jk 0))]
abbrev oX1v_2:OLq:=[Jq 4 (.mv (Jk (-1)))]
abbrev oX1v_3:OLq:=[Jm 7 0,Jn 8 7,Jf 9 0 8,Jl 10 9,Jm 11 1,Jm 12 0,Jn 13 12,Jf 14 0 13,Jl 15 14,Je 16 15,Jq 17 (.bin .rem (.t 11) (.t 16)),Ji 18 1 10 17,Jl 19 18,Jm 4 19]
def cX1v:IC:=(.seq (.ops oX1v_0) (.seq (.seq (.ops oX1v_1) (.cond (.t 6) (.seq (.ops oX1v_2) .ret) .skip)) (.seq (.ops oX1v_3) .ret)))
def iX1v:IFn:=⟨20,cX1v,[(4,none)]⟩
-- F 59 rota/rotaref07.turned: bads 0, calls [74]
abbrev oX1y_0:OLq:=[Jq 6 (.mv (.k (.c (.sl none 0 0 false))))]
abbrev oX1y_1:OLq:=[Jq 7 (.mv (.k (.c (.sl none 0 0 false))))]
abbrev oX1y_2:OLq:=[Jq 8 (.mv (Jk 0))]
abbrev oX1y_3:OLq:=[Jm 15 8,Jm 16 0,Je 17 16,Jq 18 (.bin .lss (.t 15) (.t 17))]
abbrev oX1y_4:OLq:=[Jq 9 (.mv (Jk 0))]
abbrev oX1y_5:OLq:=[Jm 21 0,Jm 22 8,Ji 23 1 21 22,Jl 24 23,Jq 25 (.cv .i64 (.t 24)),Jm 10 25]
abbrev oX1y_6:OLq:=[Jq 11 (.mv (Jk 1))]
abbrev oX1y_7:OLq:=[Jq 12 (.mv (Jk 0))]
abbrev oX1y_8:OLq:=[Jm 26 12,Jq 27 (.bin .lss (.t 26) (Jk 8))]
abbrev oX1y_9:OLq:=[Jm 30 10,Jq 31 (.bin .rem (.t 30) (Jk 2)),Jq 32 (.bin .eql (.t 31) (Jk 1)),Jm 13 32]
abbrev oX1y_10:OLq:=[Jm 33 10,Jq 34 (.bin .quo (.t 33) (Jk 2)),Jm 10 34]
abbrev oX1y_11:OLq:=[Jm 35 8,Jq 36 (.bin .mul (Jk 8) (.t 35)),Jm 37 12,Jq 38 (.bin .add (.t 36) (.t 37)),Jm 14 38]
abbrev oX1y_12:OLq:=[Jm 39 14,Jm 40 1,Jq 41 (.bin .geq (.t 39) (.t 40)),Jm 42 41,⟨(some 43),.mv (.t 14),some (42,true)⟩,⟨(some 44),.mv (.t 1),some (42,true)⟩,⟨(some 45),.bin .sub (.t 43) (.t 44),some (42,true)⟩,⟨(some 46),.bin .lss (.t 45) (Jk 32),some (42,true)⟩,Jq 47 (.pick (.t 42) (.t 46) (.k (.c (.bool false)))),Jm 48 47,⟨(some 49),.mv (.t 14),some (48,true)⟩,⟨(some 50),.mv (.t 1),some (48,true)⟩,⟨(some 51),.bin .sub (.t 49) (.t 50),some (48,true)⟩,⟨(some 52),.bin .geq (.t 51) (Jk 0),some (48,true)⟩,Jq 53 (.pick (.t 48) (.t 52) (.k (.c (.bool false)))),Jm 54 53,⟨(some 55),.mv (.t 2),some (54,true)⟩,⟨(some 56),.mv (.t 14),some (54,true)⟩,⟨(some 57),.mv (.t 1),some (54,true)⟩,⟨(some 58),.bin .sub (.t 56) (.t 57),some (54,true)⟩,⟨(some 59),.call (.k (.c (.fn fX1x [] []))) [.t 55,.t 58],some (54,true)⟩,Jq 60 (.pick (.t 54) (.t 59) (.k (.c (.bool false))))]
abbrev oX1y_13:OLq:=[Jm 61 13,Jq 62 (.un .not (.t 61)),Jm 13 62]
abbrev oX1y_14:OLq:=[Jm 63 13]
abbrev oX1y_15:OLq:=[Jm 64 9,Jm 65 11,Jq 66 (.bin .add (.t 64) (.t 65)),Jm 9 66]
abbrev oX1y_16:OLq:=[Jm 67 11,Jq 68 (.bin .mul (Jk 2) (.t 67)),Jm 11 68]
abbrev oX1y_17:OLq:=[Jm 28 12,Jq 29 (.bin .add (.t 28) (Jk 1)),Jm 12 29]
def bX1y_18:IC:=(.seq (.seq (.ops oX1y_8) (.cond (.t 27) .skip (.exit 2))) (.seq (.block 3 (.seq (.ops oX1y_9) (.seq (.ops oX1y_10) (.seq (.ops oX1y_11) (.seq (.seq (.ops oX1y_12) (.cond (.t 60) (.ops oX1y_13) .skip)) (.seq (.seq (.ops oX1y_14) (.cond (.t 63) (.ops oX1y_15) .skip)) (.ops oX1y_16))))))) (.ops oX1y_17)))
abbrev oX1y_19:OLq:=[Jm 69 7,Jm 70 9,Jq 71 (.cv .u8 (.t 70)),Jq 72 (.bsl 5 1 [(.int .u8 0)] [(0,1,(.t 71))]),Jq 73 (.app 5 1 1 (.t 69) (.t 72)),Jm 7 73]
abbrev oX1y_20:OLq:=[Jm 19 8,Jq 20 (.bin .add (.t 19) (Jk 1)),Jm 8 20]
def bX1y_21:IC:=(.seq (.seq (.ops oX1y_3) (.cond (.t 18) .skip (.exit 0))) (.seq (.block 1 (.seq (.ops oX1y_4) (.seq (.ops oX1y_5) (.seq (.ops oX1y_6) (.seq (.seq (.ops oX1y_7) (.block 2 (.loop bX1y_18))) (.ops oX1y_19)))))) (.ops oX1y_20)))
abbrev oX1y_22:OLq:=[Jm 74 7,Jm 6 74]
def cX1y:IC:=(.seq (.ops oX1y_0) (.seq (.ops oX1y_1) (.seq (.seq (.ops oX1y_2) (.block 0 (.loop bX1y_21))) (.seq (.ops oX1y_22) .ret))))
def iX1y:IFn:=⟨75,cX1y,[(6,none)]⟩
-- F 60 (*sync/atomic.Uint64).Load: bads 0, calls [75]
abbrev oX3_0:OLq:=[Jq 2 (.mv (.k (.c (.int .u64 0))))]
abbrev oX3_1:OLq:=[Jm 3 0,Jn 4 3,Jf 5 0 4,Jq 6 (.call (.k (.c (.fn fX1 [] []))) [.t 5]),Jm 2 6]
def cX3:IC:=(.seq (.ops oX3_0) (.seq (.ops oX3_1) .ret))
def iX3:IFn:=⟨7,cX3,[(2,none)]⟩
-- F 61 rota/frame.number: bads 0, calls []
abbrev oX13_0:OLq:=[Jq 2 (.mv (Jk 0))]
abbrev oX13_1:OLq:=[Jm 5 0,Je 6 5,Jq 7 (.mv (Jk 0))]
abbrev oX13_2:OLq:=[Jq 8 (.bin .lss (.t 7) (.t 6))]
abbrev oX13_3:OLq:=[Ji 9 1 5 7,Jl 10 9,Jm 4 10]
abbrev oX13_4:OLq:=[Jm 11 2,Jq 12 (.bin .shl (.t 11) (.k (.c (.int .u64 8)))),Jm 13 4,Jq 14 (.cv .i64 (.t 13)),Jq 15 (.bin .or (.t 12) (.t 14)),Jm 2 15]
abbrev oX13_5:OLq:=[Jq 16 (.bin .add (.t 7) (Jk 1)),Jm 7 16]
def bX13_6:IC:=(.seq (.ops oX13_2) (.seq (.cond (.t 8) .skip (.exit 0)) (.seq (.block 1 (.seq (.ops oX13_3) (.ops oX13_4))) (.ops oX13_5))))
abbrev oX13_7:OLq:=[Jm 17 2,Jm 2 17]
def cX13:IC:=(.seq (.ops oX13_0) (.seq (.seq (.ops oX13_1) (.block 0 (.loop bX13_6))) (.seq (.ops oX13_7) .ret)))
def iX13:IFn:=⟨18,cX13,[(2,none)]⟩
-- F 62 rota/rotaref01.Sum: bads 0, calls [76]
abbrev oX19_0:OLq:=[Jq 2 (.mv (.k (.c (.int .u32 0))))]
abbrev oX19_1:OLq:=[Jm 3 0,Jq 4 (.call (.k (.c (.fn fX18 [] []))) [(.k (.c (.int .u32 0))),.t 3]),Jm 2 4]
def cX19:IC:=(.seq (.ops oX19_0) (.seq (.ops oX19_1) .ret))
def iX19:IFn:=⟨5,cX19,[(2,none)]⟩
-- F 63 rota/config.fine: bads 0, calls [77, 78, 79, 80, 81, 82]
abbrev oXf_0:OLq:=[Jq 3 (.box 39 (.t 1)),Jq 4 (.mv (.k (.c (.bool false))))]
abbrev oXf_1:OLq:=[Jm 5 0]
abbrev oXf_2:OLq:=[Jq 7 (.bin .eql (.t 5) (Jk 21)),Jm 6 7]
abbrev oXf_3:OLq:=[Jq 8 (.ld (some 12) (.t 3)),Jq 9 (.call (.k (.c (.fn fXi [] []))) [.t 8]),Jm 4 9]
abbrev oXf_4:OLq:=[Jq 11 (.bin .eql (.t 5) (Jk 22)),Jm 10 11]
abbrev oXf_5:OLq:=[Jq 12 (.ld (some 12) (.t 3)),Jq 13 (.call (.k (.c (.fn fXe [] []))) [.t 12]),Jm 4 13]
abbrev oXf_6:OLq:=[Jq 15 (.bin .eql (.t 5) (Jk 23)),Jm 14 15]
abbrev oXf_7:OLq:=[Jq 16 (.ld (some 12) (.t 3)),Jq 17 (.call (.k (.c (.fn fXl [] []))) [.t 16]),Jm 4 17]
abbrev oXf_8:OLq:=[Jq 19 (.bin .eql (.t 5) (Jk 24)),Jm 18 19]
abbrev oXf_9:OLq:=[Jq 20 (.ld (some 12) (.t 3)),Jq 21 (.call (.k (.c (.fn fXo [] []))) [.t 20]),Jm 4 21]
abbrev oXf_10:OLq:=[Jq 23 (.bin .eql (.t 5) (Jk 25)),Jm 22 23]
abbrev oXf_11:OLq:=[Jq 24 (.ld (some 12) (.t 3)),Jq 25 (.call (.k (.c (.fn fXn [] []))) [.t 24]),Jm 4 25]
abbrev oXf_12:OLq:=[Jq 26 (.ld (some 12) (.t 3)),Jq 27 (.call (.k (.c (.fn fXg [] []))) [.t 26]),Jm 4 27]
def cXf:IC:=(.seq (.ops oXf_0) (.seq (.seq (.ops oXf_1) (.block 0 (.seq (.ops oXf_2) (.cond (.t 6) (.seq (.ops oXf_3) .ret) (.seq (.ops oXf_4) (.cond (.t 10) (.seq (.ops oXf_5) .ret) (.seq (.ops oXf_6) (.cond (.t 14) (.seq (.ops oXf_7) .ret) (.seq (.ops oXf_8) (.cond (.t 18) (.seq (.ops oXf_9) .ret) (.seq (.ops oXf_10) (.cond (.t 22) (.seq (.ops oXf_11) .ret) .skip)))))))))))) (.seq (.ops oXf_12) .ret)))
def iXf:IFn:=⟨28,cXf,[(4,none)]⟩
-- F 64 slices.IndexFunc[[]rota/api.Send,rota/api.Send]: bads 0, calls []
abbrev oX29_0:OLq:=[Jq 4 (.mv (Jk 0))]
abbrev oX29_1:OLq:=[Jm 6 0,Je 7 6,Jq 8 (.mv (Jk 0))]
abbrev oX29_2:OLq:=[Jq 9 (.bin .lss (.t 8) (.t 7))]
abbrev oX29_3:OLq:=[Jm 10 8,Jm 5 10]
abbrev oX29_4:OLq:=[Jm 11 1,Jm 12 0,Jm 13 5,Ji 14 2 12 13,Jq 15 (.ld (some 2) (.t 14)),Jq 16 (.call (.t 11) [.t 15])]
abbrev oX29_5:OLq:=[Jm 17 5,Jm 4 17]
abbrev oX29_6:OLq:=[Jq 18 (.bin .add (.t 8) (Jk 1)),Jm 8 18]
def bX29_7:IC:=(.seq (.ops oX29_2) (.seq (.cond (.t 9) .skip (.exit 0)) (.seq (.block 1 (.seq (.ops oX29_3) (.seq (.ops oX29_4) (.cond (.t 16) (.seq (.ops oX29_5) .ret) .skip)))) (.ops oX29_6))))
abbrev oX29_8:OLq:=[Jq 4 (.mv (Jk (-1)))]
def cX29:IC:=(.seq (.ops oX29_0) (.seq (.seq (.ops oX29_1) (.block 0 (.loop bX29_7))) (.seq (.ops oX29_8) .ret)))
def iX29:IFn:=⟨19,cX29,[(4,none)]⟩
-- F 65 (*rota/bus.Bus).pass$1: bads 0, calls []
abbrev oX9_0:OLq:=[Jq 2 (.box 56 (.t 0)),Jq 3 (.mv (.k (.c (.bool false))))]
abbrev oX9_1:OLq:=[Jl 4 1,Jq 5 (.bin .geq (.t 4) (Jk 0)),Jm 6 5,⟨(some 7),.fa 0 (.t 2),some (6,true)⟩,⟨(some 8),.ld none (.t 7),some (6,true)⟩,⟨(some 9),.ld none (.t 1),some (6,true)⟩,⟨(some 10),.bin .eql (.t 8) (.t 9),some (6,true)⟩,Jq 11 (.pick (.t 6) (.t 10) (.k (.c (.bool false)))),Jm 3 11]
def cX9:IC:=(.seq (.ops oX9_0) (.seq (.ops oX9_1) .ret))
def iX9:IFn:=⟨12,cX9,[(3,none)]⟩
-- F 66 (*sync/atomic.Uint64).Add: bads 0, calls [83]
abbrev oX2_0:OLq:=[Jq 4 (.mv (.k (.c (.int .u64 0))))]
abbrev oX2_1:OLq:=[Jm 5 0,Jn 6 5,Jf 7 0 6,Jm 8 1,Jq 9 (.call (.k (.c (.fn fX0 [] []))) [.t 7,.t 8]),Jm 4 9]
def cX2:IC:=(.seq (.ops oX2_0) (.seq (.ops oX2_1) .ret))
def iX2:IFn:=⟨10,cX2,[(4,none)]⟩
-- F 67 rota/frame.bits$1: bads 0, calls []
abbrev oX11_0:OLq:=[Jq 4 (.mv (Jk 0))]
abbrev oX11_1:OLq:=[Jq 5 (.bin .lss (.t 4) (Jk 32))]
abbrev oX11_2:OLq:=[Jm 6 4,Jm 3 6]
abbrev oX11_3:OLq:=[Jl 7 1,Jm 8 3,Jq 9 (.bin .shr (.t 7) (.t 8)),Jq 10 (.bin .eql (.t 9) (.k (.c (.int .u32 0))))]
abbrev oX11_4:OLq:=[Jl 11 1,Jm 12 3,Jq 13 (.bin .shr (.t 11) (.t 12)),Jq 14 (.bin .and (.t 13) (.k (.c (.int .u32 1)))),Jq 15 (.bin .eql (.t 14) (.k (.c (.int .u32 1)))),Jm 16 15,⟨(some 17),.mv (.t 0),some (16,true)⟩,⟨(some 18),.mv (.t 3),some (16,true)⟩,⟨(some 19),.call (.t 17) [.t 18],some (16,true)⟩,⟨(some 20),.un .not (.t 19),some (16,true)⟩,Jq 21 (.pick (.t 16) (.t 20) (.k (.c (.bool false))))]
abbrev oX11_5:OLq:=[Jq 22 (.bin .add (.t 4) (Jk 1)),Jm 4 22]
def bX11_6:IC:=(.seq (.ops oX11_1) (.seq (.cond (.t 5) .skip (.exit 0)) (.seq (.block 1 (.seq (.ops oX11_2) (.seq (.seq (.ops oX11_3) (.cond (.t 10) (.exit 0) .skip)) (.seq (.ops oX11_4) (.cond (.t 21) (.exit 0) .skip))))) (.ops oX11_5))))
def cX11:IC:=(.seq .skip (.seq .skip (.seq (.ops oX11_0) (.block 0 (.loop bX11_6)))))
def iX11:IFn:=⟨23,cX11,[]⟩
-- F 68 rota/rotaref02.nodes: bads 0, calls [84]
abbrev oX1l_0:OLq:=[Jq 1 (.box 39 (.t 0)),Jq 2 (.mv (.k (.c (.bool false))))]
abbrev oX1l_1:OLq:=[Jf 4 0 1,Jl 5 4,Jq 6 (.bin .lss (.t 5) (Jk 4)),Jm 7 6,⟨(some 8),.fa 0 (.t 1),some (7,false)⟩,⟨(some 9),.ld none (.t 8),some (7,false)⟩,⟨(some 10),.bin .gtr (.t 9) (Jk 16),some (7,false)⟩,Jq 11 (.pick (.t 7) (.k (.c (.bool true))) (.t 10)),Jm 12 11,⟨(some 13),.fa 1 (.t 1),some (12,false)⟩,⟨(some 14),.ld none (.t 13),some (12,false)⟩,⟨(some 15),.len false (.t 14),some (12,false)⟩,⟨(some 16),.fa 0 (.t 1),some (12,false)⟩,⟨(some 17),.ld none (.t 16),some (12,false)⟩,⟨(some 18),.bin .neq (.t 15) (.t 17),some (12,false)⟩,Jq 19 (.pick (.t 12) (.k (.c (.bool true))) (.t 18))]
abbrev oX1l_2:OLq:=[Jq 2 (.mv (.k (.c (.bool false))))]
abbrev oX1l_3:OLq:=[Jq 3 (.mv (Jk 0))]
abbrev oX1l_4:OLq:=[Jm 20 3,Jf 21 0 1,Jl 22 21,Jq 23 (.bin .lss (.t 20) (.t 22))]
abbrev oX1l_5:OLq:=[Jf 26 1 1,Jl 27 26,Jm 28 3,Jq 29 (.call (.k (.c (.fn fX1h [] []))) [.t 27,.t 28]),Jq 30 (.bin .neq (.t 29) (Jk 1))]
abbrev oX1l_6:OLq:=[Jq 2 (.mv (.k (.c (.bool false))))]
abbrev oX1l_7:OLq:=[Jm 24 3,Jq 25 (.bin .add (.t 24) (Jk 1)),Jm 3 25]
def bX1l_8:IC:=(.seq (.seq (.ops oX1l_4) (.cond (.t 23) .skip (.exit 0))) (.seq (.block 1 (.seq (.ops oX1l_5) (.cond (.t 30) (.seq (.ops oX1l_6) .ret) .skip))) (.ops oX1l_7)))
abbrev oX1l_9:OLq:=[Jq 2 (.mv (.k (.c (.bool true))))]
def cX1l:IC:=(.seq (.ops oX1l_0) (.seq (.seq (.ops oX1l_1) (.cond (.t 19) (.seq (.ops oX1l_2) .ret) .skip)) (.seq (.seq (.ops oX1l_3) (.block 0 (.loop bX1l_8))) (.seq (.ops oX1l_9) .ret))))
def iX1l:IFn:=⟨31,cX1l,[(2,none)]⟩
-- F 69 rota/rotaref02.clock: bads 0, calls [85, 85]
abbrev oX1g_0:OLq:=[Jq 1 (.box 39 (.t 0)),Jq 2 (.mv (.k (.c (.bool false))))]
abbrev oX1g_1:OLq:=[Jf 4 2 1,Jl 5 4,Jq 6 (.bin .lss (.t 5) (Jk 0)),Jm 7 6,⟨(some 8),.fa 2 (.t 1),some (7,false)⟩,⟨(some 9),.ld none (.t 8),some (7,false)⟩,⟨(some 10),.bin .gtr (.t 9) (Jk 1048576),some (7,false)⟩,Jq 11 (.pick (.t 7) (.k (.c (.bool true))) (.t 10)),Jm 12 11,⟨(some 13),.fa 3 (.t 1),some (12,false)⟩,⟨(some 14),.ld none (.t 13),some (12,false)⟩,⟨(some 15),.bin .lss (.t 14) (Jk 0),some (12,false)⟩,Jq 16 (.pick (.t 12) (.k (.c (.bool true))) (.t 15)),Jm 17 16,⟨(some 18),.fa 3 (.t 1),some (17,false)⟩,⟨(some 19),.ld none (.t 18),some (17,false)⟩,⟨(some 20),.bin .gtr (.t 19) (Jk 1048576),some (17,false)⟩,Jq 21 (.pick (.t 17) (.k (.c (.bool true))) (.t 20))]
abbrev oX1g_2:OLq:=[Jq 2 (.mv (.k (.c (.bool false))))]
abbrev oX1g_3:OLq:=[Jf 27 3 1,Jl 28 27,Jq 24 (.ld (some 12) (.t 1)),Jq 22 (.ld (some 12) (.t 1)),Jq 23 (.call (.k (.c (.fn fX1e [] []))) [.t 22]),Kq (.same (some none) (.t 27) (.t 28)),Kq (.same (some (some 12)) (.t 1) (.t 24)),Jq 25 (.call (.k (.c (.fn fX1e [] []))) [.t 24]),Kq (.same (some none) (.t 27) (.t 28)),Jq 26 (.bin .add (.t 23) (.t 25)),Jq 29 (.bin .add (.t 26) (.t 28)),Jm 3 29]
abbrev oX1g_4:OLq:=[Jf 30 4 1,Jl 31 30,Jm 32 3,Jq 33 (.bin .geq (.t 31) (.t 32)),Jm 34 33,⟨(some 35),.fa 4 (.t 1),some (34,true)⟩,⟨(some 36),.ld none (.t 35),some (34,true)⟩,⟨(some 37),.bin .leq (.t 36) (Jk 16777216),some (34,true)⟩,Jq 38 (.pick (.t 34) (.t 37) (.k (.c (.bool false)))),Jm 39 38,⟨(some 40),.fa 5 (.t 1),some (39,true)⟩,⟨(some 41),.ld none (.t 40),some (39,true)⟩,⟨(some 42),.mv (.t 3),some (39,true)⟩,⟨(some 43),.bin .geq (.t 41) (.t 42),some (39,true)⟩,Jq 44 (.pick (.t 39) (.t 43) (.k (.c (.bool false)))),Jm 45 44,⟨(some 46),.fa 5 (.t 1),some (45,true)⟩,⟨(some 47),.ld none (.t 46),some (45,true)⟩,⟨(some 48),.bin .leq (.t 47) (Jk 16777216),some (45,true)⟩,Jq 49 (.pick (.t 45) (.t 48) (.k (.c (.bool false)))),Jm 50 49,⟨(some 51),.fa 6 (.t 1),some (50,true)⟩,⟨(some 52),.ld none (.t 51),some (50,true)⟩,⟨(some 53),.bin .geq (.t 52) (Jk 1),some (50,true)⟩,Jq 54 (.pick (.t 50) (.t 53) (.k (.c (.bool false)))),Jm 55 54,⟨(some 56),.fa 6 (.t 1),some (55,true)⟩,⟨(some 57),.ld none (.t 56),some (55,true)⟩,⟨(some 58),.bin .leq (.t 57) (Jk 8),some (55,true)⟩,Jq 59 (.pick (.t 55) (.t 58) (.k (.c (.bool false)))),Jm 60 59,⟨(some 61),.fa 7 (.t 1),some (60,true)⟩,⟨(some 62),.ld none (.t 61),some (60,true)⟩,⟨(some 63),.bin .geq (.t 62) (Jk 1),some (60,true)⟩,Jq 64 (.pick (.t 60) (.t 63) (.k (.c (.bool false)))),Jm 65 64,⟨(some 66),.fa 7 (.t 1),some (65,true)⟩,⟨(some 67),.ld none (.t 66),some (65,true)⟩,⟨(some 68),.bin .leq (.t 67) (Jk 16),some (65,true)⟩,Jq 69 (.pick (.t 65) (.t 68) (.k (.c (.bool false)))),Jm 2 69]
def cX1g:IC:=(.seq (.ops oX1g_0) (.seq (.seq (.ops oX1g_1) (.cond (.t 21) (.seq (.ops oX1g_2) .ret) .skip)) (.seq (.ops oX1g_3) (.seq (.ops oX1g_4) .ret))))
def iX1g:IFn:=⟨70,cX1g,[(2,none)]⟩
-- F 70 rota/rotaref02.parts: bads 0, calls [86]
abbrev oX1m_0:OLq:=[Jq 1 (.box 39 (.t 0)),Jq 2 (.mv (.k (.c (.bool false))))]
abbrev oX1m_1:OLq:=[Jf 9 8 1,Jl 10 9,Je 11 10,Jq 12 (.bin .gtr (.t 11) (Jk 32))]
abbrev oX1m_2:OLq:=[Jq 2 (.mv (.k (.c (.bool false))))]
abbrev oX1m_3:OLq:=[Jq 3 (.mv (Jk 0))]
abbrev oX1m_4:OLq:=[Jm 13 3,Jf 14 8 1,Jl 15 14,Je 16 15,Jq 17 (.bin .lss (.t 13) (.t 16))]
abbrev oX1m_5:OLq:=[Jf 20 8 1,Jl 21 20,Jm 22 3,Ji 23 3 21 22,Jq 24 (.ld (some 3) (.t 23)),Jq 4 (.new 154 (.agg [(.int .i64 0),(.int .i64 0),(.int .i64 0)])),Kq (.st 3 (.t 4) (.t 24))]
abbrev oX1m_6:OLq:=[Jf 25 0 4,Jl 26 25,Jq 27 (.bin .lss (.t 26) (Jk 0)),Jm 28 27,⟨(some 29),.fa 0 (.t 4),some (28,false)⟩,⟨(some 30),.ld none (.t 29),some (28,false)⟩,⟨(some 31),.fa 0 (.t 1),some (28,false)⟩,⟨(some 32),.ld none (.t 31),some (28,false)⟩,⟨(some 33),.bin .geq (.t 30) (.t 32),some (28,false)⟩,Jq 34 (.pick (.t 28) (.k (.c (.bool true))) (.t 33)),Jm 35 34,⟨(some 36),.fa 1 (.t 4),some (35,false)⟩,⟨(some 37),.ld none (.t 36),some (35,false)⟩,⟨(some 38),.bin .lss (.t 37) (Jk 0),some (35,false)⟩,Jq 39 (.pick (.t 35) (.k (.c (.bool true))) (.t 38)),Jm 40 39,⟨(some 41),.fa 1 (.t 4),some (40,false)⟩,⟨(some 42),.ld none (.t 41),some (40,false)⟩,⟨(some 43),.fa 2 (.t 4),some (40,false)⟩,⟨(some 44),.ld none (.t 43),some (40,false)⟩,⟨(some 45),.bin .gtr (.t 42) (.t 44),some (40,false)⟩,Jq 46 (.pick (.t 40) (.k (.c (.bool true))) (.t 45)),Jm 47 46,⟨(some 48),.fa 2 (.t 4),some (47,false)⟩,⟨(some 49),.ld none (.t 48),some (47,false)⟩,⟨(some 50),.bin .gtr (.t 49) (Jk 256),some (47,false)⟩,Jq 51 (.pick (.t 47) (.k (.c (.bool true))) (.t 50))]
abbrev oX1m_7:OLq:=[Jq 2 (.mv (.k (.c (.bool false))))]
abbrev oX1m_8:OLq:=[Jm 18 3,Jq 19 (.bin .add (.t 18) (Jk 1)),Jm 3 19]
def bX1m_9:IC:=(.seq (.seq (.ops oX1m_4) (.cond (.t 17) .skip (.exit 0))) (.seq (.block 1 (.seq (.ops oX1m_5) (.seq (.ops oX1m_6) (.cond (.t 51) (.seq (.ops oX1m_7) .ret) .skip)))) (.ops oX1m_8)))
abbrev oX1m_10:OLq:=[Jq 5 (.mv (Jk 0))]
abbrev oX1m_11:OLq:=[Jm 52 5,Jf 53 8 1,Jl 54 53,Je 55 54,Jq 56 (.bin .lss (.t 52) (.t 55))]
abbrev oX1m_12:OLq:=[Jq 6 (.mv (Jk 0))]
abbrev oX1m_13:OLq:=[Jm 59 6,Jm 60 5,Jq 61 (.bin .lss (.t 59) (.t 60))]
abbrev oX1m_14:OLq:=[Jf 64 8 1,Jl 65 64,Jm 66 5,Ji 67 3 65 66,Jq 68 (.ld (some 3) (.t 67)),Jq 7 (.new 154 (.agg [(.int .i64 0),(.int .i64 0),(.int .i64 0)])),Kq (.st 3 (.t 7) (.t 68))]
abbrev oX1m_15:OLq:=[Jf 69 8 1,Jl 70 69,Jm 71 6,Ji 72 3 70 71,Jq 73 (.ld (some 3) (.t 72)),Jq 8 (.new 154 (.agg [(.int .i64 0),(.int .i64 0),(.int .i64 0)])),Kq (.st 3 (.t 8) (.t 73))]
abbrev oX1m_16:OLq:=[Jf 74 0 7,Jl 75 74,Jf 76 0 8,Jl 77 76,Jq 78 (.bin .eql (.t 75) (.t 77)),Jm 79 78,⟨(some 80),.fa 1 (.t 7),some (79,true)⟩,⟨(some 81),.ld none (.t 80),some (79,true)⟩,⟨(some 82),.fa 2 (.t 7),some (79,true)⟩,⟨(some 83),.ld none (.t 82),some (79,true)⟩,⟨(some 84),.fa 1 (.t 8),some (79,true)⟩,⟨(some 85),.ld none (.t 84),some (79,true)⟩,⟨(some 86),.fa 2 (.t 8),some (79,true)⟩,⟨(some 87),.ld none (.t 86),some (79,true)⟩,⟨(some 88),.call (.k (.c (.fn fX1k [] []))) [.t 81,.t 83,.t 85,.t 87],some (79,true)⟩,Jq 89 (.pick (.t 79) (.t 88) (.k (.c (.bool false))))]
abbrev oX1m_17:OLq:=[Jq 2 (.mv (.k (.c (.bool false))))]
abbrev oX1m_18:OLq:=[Jm 62 6,Jq 63 (.bin .add (.t 62) (Jk 1)),Jm 6 63]
def bX1m_19:IC:=(.seq (.seq (.ops oX1m_13) (.cond (.t 61) .skip (.exit 4))) (.seq (.block 5 (.seq (.ops oX1m_14) (.seq (.ops oX1m_15) (.seq (.ops oX1m_16) (.cond (.t 89) (.seq (.ops oX1m_17) .ret) .skip))))) (.ops oX1m_18)))
abbrev oX1m_20:OLq:=[Jm 57 5,Jq 58 (.bin .add (.t 57) (Jk 1)),Jm 5 58]
def bX1m_21:IC:=(.seq (.seq (.ops oX1m_11) (.cond (.t 56) .skip (.exit 2))) (.seq (.block 3 (.seq (.ops oX1m_12) (.block 4 (.loop bX1m_19)))) (.ops oX1m_20)))
abbrev oX1m_22:OLq:=[Jq 2 (.mv (.k (.c (.bool true))))]
def cX1m:IC:=(.seq (.ops oX1m_0) (.seq (.seq (.ops oX1m_1) (.cond (.t 12) (.seq (.ops oX1m_2) .ret) .skip)) (.seq (.seq (.ops oX1m_3) (.block 0 (.loop bX1m_9))) (.seq (.seq (.ops oX1m_10) (.block 2 (.loop bX1m_21))) (.seq (.ops oX1m_22) .ret)))))
def iX1m:IFn:=⟨90,cX1m,[(2,none)]⟩
-- F 71 rota/rotaref02.windows: bads 0, calls []
abbrev oX1o_0:OLq:=[Jq 1 (.box 39 (.t 0)),Jq 2 (.mv (.k (.c (.bool false))))]
abbrev oX1o_1:OLq:=[Jf 6 9 1,Jl 7 6,Je 8 7,Jf 9 0 1,Jl 10 9,Jq 11 (.bin .neq (.t 8) (.t 10))]
abbrev oX1o_2:OLq:=[Jq 2 (.mv (.k (.c (.bool false))))]
abbrev oX1o_3:OLq:=[Jq 3 (.mv (Jk 0))]
abbrev oX1o_4:OLq:=[Jm 12 3,Jf 13 0 1,Jl 14 13,Jq 15 (.bin .lss (.t 12) (.t 14))]
abbrev oX1o_5:OLq:=[Jf 18 9 1,Jl 19 18,Jm 20 3,Ji 21 1 19 20,Jl 22 21,Je 23 22,Jf 24 0 1,Jl 25 24,Jq 26 (.bin .neq (.t 23) (.t 25))]
abbrev oX1o_6:OLq:=[Jq 2 (.mv (.k (.c (.bool false))))]
abbrev oX1o_7:OLq:=[Jq 4 (.mv (Jk 0))]
abbrev oX1o_8:OLq:=[Jm 27 4,Jf 28 0 1,Jl 29 28,Jq 30 (.bin .lss (.t 27) (.t 29))]
abbrev oX1o_9:OLq:=[Jf 33 9 1,Jl 34 33,Jm 35 3,Ji 36 1 34 35,Jl 37 36,Jm 38 4,Ji 39 1 37 38,Jl 40 39,Jm 5 40]
abbrev oX1o_10:OLq:=[Jm 41 5,Jq 42 (.bin .neq (.t 41) (Jk (-1))),Jm 43 42,⟨(some 44),.mv (.t 5),some (43,true)⟩,⟨(some 45),.bin .lss (.t 44) (Jk 0),some (43,true)⟩,⟨(some 46),.mv (.t 45),some (43,true)⟩,⟨(some 47),.mv (.t 5),some (46,false)⟩,⟨(some 48),.fa 8 (.t 1),some (46,false)⟩,⟨(some 49),.ld none (.t 48),some (46,false)⟩,⟨(some 50),.len false (.t 49),some (46,false)⟩,⟨(some 51),.bin .geq (.t 47) (.t 50),some (46,false)⟩,⟨(some 52),.pick (.t 46) (.k (.c (.bool true))) (.t 51),some (43,true)⟩,⟨(some 53),.mv (.t 52),some (43,true)⟩,⟨(some 54),.fa 8 (.t 1),some (53,false)⟩,⟨(some 55),.ld none (.t 54),some (53,false)⟩,⟨(some 56),.mv (.t 5),some (53,false)⟩,⟨(some 57),.iaS 3 (.t 55) (.t 56),some (53,false)⟩,⟨(some 58),.fa 0 (.t 57),some (53,false)⟩,⟨(some 59),.ld none (.t 58),some (53,false)⟩,⟨(some 60),.mv (.t 3),some (53,false)⟩,⟨(some 61),.bin .neq (.t 59) (.t 60),some (53,false)⟩,⟨(some 62),.pick (.t 53) (.k (.c (.bool true))) (.t 61),some (43,true)⟩,Jq 63 (.pick (.t 43) (.t 62) (.k (.c (.bool false))))]
abbrev oX1o_11:OLq:=[Jq 2 (.mv (.k (.c (.bool false))))]
abbrev oX1o_12:OLq:=[Jm 31 4,Jq 32 (.bin .add (.t 31) (Jk 1)),Jm 4 32]
def bX1o_13:IC:=(.seq (.seq (.ops oX1o_8) (.cond (.t 30) .skip (.exit 2))) (.seq (.block 3 (.seq (.ops oX1o_9) (.seq (.ops oX1o_10) (.cond (.t 63) (.seq (.ops oX1o_11) .ret) .skip)))) (.ops oX1o_12)))
abbrev oX1o_14:OLq:=[Jm 16 3,Jq 17 (.bin .add (.t 16) (Jk 1)),Jm 3 17]
def bX1o_15:IC:=(.seq (.seq (.ops oX1o_4) (.cond (.t 15) .skip (.exit 0))) (.seq (.block 1 (.seq (.seq (.ops oX1o_5) (.cond (.t 26) (.seq (.ops oX1o_6) .ret) .skip)) (.seq (.ops oX1o_7) (.block 2 (.loop bX1o_13))))) (.ops oX1o_14)))
abbrev oX1o_16:OLq:=[Jq 2 (.mv (.k (.c (.bool true))))]
def cX1o:IC:=(.seq (.ops oX1o_0) (.seq (.seq (.ops oX1o_1) (.cond (.t 11) (.seq (.ops oX1o_2) .ret) .skip)) (.seq (.seq (.ops oX1o_3) (.block 0 (.loop bX1o_15))) (.seq (.ops oX1o_16) .ret))))
def iX1o:IFn:=⟨64,cX1o,[(2,none)]⟩
-- F 72 rota/rotaref02.ports: bads 0, calls [87]
abbrev oX1n_0:OLq:=[Jq 1 (.box 39 (.t 0)),Jq 2 (.mv (.k (.c (.bool false))))]
abbrev oX1n_1:OLq:=[Jq 3 (.mv (Jk 0))]
abbrev oX1n_2:OLq:=[Jm 4 3,Jf 5 10 1,Jl 6 5,Je 7 6,Jq 8 (.bin .lss (.t 4) (.t 7))]
abbrev oX1n_3:OLq:=[Jf 11 10 1,Jl 12 11,Jm 13 3,Ji 14 6 12 13,Jq 15 (.ld (some 6) (.t 14)),Jq 16 (.call (.k (.c (.fn fX1b [] []))) [.t 15]),Jq 17 (.un .not (.t 16)),Jm 18 17,⟨(some 19),.fa 10 (.t 1),some (18,false)⟩,⟨(some 20),.ld none (.t 19),some (18,false)⟩,⟨(some 21),.mv (.t 3),some (18,false)⟩,⟨(some 22),.iaS 6 (.t 20) (.t 21),some (18,false)⟩,⟨(some 23),.fa 0 (.t 22),some (18,false)⟩,⟨(some 24),.ld none (.t 23),some (18,false)⟩,⟨(some 25),.bin .lss (.t 24) (Jk 0),some (18,false)⟩,Jq 26 (.pick (.t 18) (.k (.c (.bool true))) (.t 25)),Jm 27 26,⟨(some 28),.fa 10 (.t 1),some (27,false)⟩,⟨(some 29),.ld none (.t 28),some (27,false)⟩,⟨(some 30),.mv (.t 3),some (27,false)⟩,⟨(some 31),.iaS 6 (.t 29) (.t 30),some (27,false)⟩,⟨(some 32),.fa 0 (.t 31),some (27,false)⟩,⟨(some 33),.ld none (.t 32),some (27,false)⟩,⟨(some 34),.fa 8 (.t 1),some (27,false)⟩,⟨(some 35),.ld none (.t 34),some (27,false)⟩,⟨(some 36),.len false (.t 35),some (27,false)⟩,⟨(some 37),.bin .geq (.t 33) (.t 36),some (27,false)⟩,Jq 38 (.pick (.t 27) (.k (.c (.bool true))) (.t 37))]
abbrev oX1n_4:OLq:=[Jq 2 (.mv (.k (.c (.bool false))))]
abbrev oX1n_5:OLq:=[Jm 9 3,Jq 10 (.bin .add (.t 9) (Jk 1)),Jm 3 10]
def bX1n_6:IC:=(.seq (.seq (.ops oX1n_2) (.cond (.t 8) .skip (.exit 0))) (.seq (.block 1 (.seq (.ops oX1n_3) (.cond (.t 38) (.seq (.ops oX1n_4) .ret) .skip))) (.ops oX1n_5)))
abbrev oX1n_7:OLq:=[Jf 39 10 1,Jl 40 39,Je 41 40,Jq 42 (.bin .leq (.t 41) (Jk 64)),Jm 2 42]
def cX1n:IC:=(.seq (.ops oX1n_0) (.seq (.seq (.ops oX1n_1) (.block 0 (.loop bX1n_6))) (.seq (.ops oX1n_7) .ret)))
def iX1n:IFn:=⟨43,cX1n,[(2,none)]⟩
-- F 73 rota/rotaref02.links: bads 0, calls [88, 88, 84, 86]
abbrev oX1j_0:OLq:=[Jq 1 (.box 39 (.t 0)),Jq 2 (.mv (.k (.c (.bool false))))]
abbrev oX1j_1:OLq:=[Jf 15 11 1,Jl 16 15,Je 17 16,Jq 18 (.bin .gtr (.t 17) (Jk 64))]
abbrev oX1j_2:OLq:=[Jq 2 (.mv (.k (.c (.bool false))))]
abbrev oX1j_3:OLq:=[Jq 3 (.mv (.k (.c (.sl none 0 0 false))))]
abbrev oX1j_4:OLq:=[Jq 4 (.mv (Jk 0))]
abbrev oX1j_5:OLq:=[Jm 19 4,Jf 20 11 1,Jl 21 20,Je 22 21,Jq 23 (.bin .lss (.t 19) (.t 22))]
abbrev oX1j_6:OLq:=[Jf 26 11 1,Jl 27 26,Jm 28 4,Ji 29 3 27 28,Jq 30 (.ld (some 3) (.t 29)),Jq 5 (.new 100 (.agg [(.int .i64 0),(.sl none 0 0 false),(.int .i64 0)])),Kq (.st 3 (.t 5) (.t 30))]
abbrev oX1j_7:OLq:=[Jq 31 (.ld (some 12) (.t 1)),Jf 32 0 5,Jl 33 32,Jq 34 (.call (.k (.c (.fn fX1i [] []))) [.t 31,.t 33]),Jq 35 (.un .not (.t 34)),Jm 36 35,⟨(some 37),.fa 10 (.t 1),some (36,false)⟩,⟨(some 38),.ld none (.t 37),some (36,false)⟩,⟨(some 39),.fa 0 (.t 5),some (36,false)⟩,⟨(some 40),.ld none (.t 39),some (36,false)⟩,⟨(some 41),.iaS 6 (.t 38) (.t 40),some (36,false)⟩,⟨(some 42),.fa 2 (.t 41),some (36,false)⟩,⟨(some 43),.ld none (.t 42),some (36,false)⟩,⟨(some 44),.bin .neq (.t 43) (Jk 1),some (36,false)⟩,Jq 45 (.pick (.t 36) (.k (.c (.bool true))) (.t 44)),Jm 46 45,⟨(some 47),.fa 1 (.t 5),some (46,false)⟩,⟨(some 48),.ld none (.t 47),some (46,false)⟩,⟨(some 49),.len false (.t 48),some (46,false)⟩,⟨(some 50),.bin .eql (.t 49) (Jk 0),some (46,false)⟩,Jq 51 (.pick (.t 46) (.k (.c (.bool true))) (.t 50)),Jm 52 51,⟨(some 53),.fa 2 (.t 5),some (52,false)⟩,⟨(some 54),.ld none (.t 53),some (52,false)⟩,⟨(some 55),.bin .lss (.t 54) (Jk 0),some (52,false)⟩,Jq 56 (.pick (.t 52) (.k (.c (.bool true))) (.t 55)),Jm 57 56,⟨(some 58),.fa 2 (.t 5),some (57,false)⟩,⟨(some 59),.ld none (.t 58),some (57,false)⟩,⟨(some 60),.bin .gtr (.t 59) (Jk 64),some (57,false)⟩,Jq 61 (.pick (.t 57) (.k (.c (.bool true))) (.t 60)),Jm 62 61,⟨(some 63),.fa 2 (.t 5),some (62,false)⟩,⟨(some 64),.ld none (.t 63),some (62,false)⟩,⟨(some 65),.bin .add (.t 64) (Jk 1),some (62,false)⟩,⟨(some 66),.fa 10 (.t 1),some (62,false)⟩,⟨(some 67),.ld none (.t 66),some (62,false)⟩,⟨(some 68),.fa 0 (.t 5),some (62,false)⟩,⟨(some 69),.ld none (.t 68),some (62,false)⟩,⟨(some 70),.iaS 6 (.t 67) (.t 69),some (62,false)⟩,⟨(some 71),.fa 3 (.t 70),some (62,false)⟩,⟨(some 72),.ld none (.t 71),some (62,false)⟩,⟨(some 73),.bin .add (.t 65) (.t 72),some (62,false)⟩,⟨(some 74),.bin .gtr (.t 73) (Jk 64),some (62,false)⟩,Jq 75 (.pick (.t 62) (.k (.c (.bool true))) (.t 74))]
abbrev oX1j_8:OLq:=[Jq 2 (.mv (.k (.c (.bool false))))]
abbrev oX1j_9:OLq:=[Jm 76 3,Jf 77 0 5,Jl 78 77,Jq 79 (.bsl 3 1 [(.int .i64 0)] [(0,1,(.t 78))]),Jq 80 (.app 3 1 8 (.t 76) (.t 79)),Jm 3 80]
abbrev oX1j_10:OLq:=[Jq 6 (.mv (Jk 0))]
abbrev oX1j_11:OLq:=[Jm 81 6,Jf 82 1 5,Jl 83 82,Je 84 83,Jq 85 (.bin .lss (.t 81) (.t 84))]
abbrev oX1j_12:OLq:=[Jf 88 1 5,Jl 89 88,Jm 90 6,Ji 91 1 89 90,Jl 92 91,Jm 7 92]
abbrev oX1j_13:OLq:=[Jq 93 (.ld (some 12) (.t 1)),Jm 94 7,Jq 95 (.call (.k (.c (.fn fX1i [] []))) [.t 93,.t 94]),Jq 96 (.un .not (.t 95)),Jm 97 96,⟨(some 98),.fa 10 (.t 1),some (97,false)⟩,⟨(some 99),.ld none (.t 98),some (97,false)⟩,⟨(some 100),.mv (.t 7),some (97,false)⟩,⟨(some 101),.iaS 6 (.t 99) (.t 100),some (97,false)⟩,⟨(some 102),.fa 2 (.t 101),some (97,false)⟩,⟨(some 103),.ld none (.t 102),some (97,false)⟩,⟨(some 104),.bin .neq (.t 103) (Jk 2),some (97,false)⟩,Jq 105 (.pick (.t 97) (.k (.c (.bool true))) (.t 104)),Jm 106 105,⟨(some 107),.fa 10 (.t 1),some (106,false)⟩,⟨(some 108),.ld none (.t 107),some (106,false)⟩,⟨(some 109),.mv (.t 7),some (106,false)⟩,⟨(some 110),.iaS 6 (.t 108) (.t 109),some (106,false)⟩,⟨(some 111),.fa 1 (.t 110),some (106,false)⟩,⟨(some 112),.ld none (.t 111),some (106,false)⟩,⟨(some 113),.fa 10 (.t 1),some (106,false)⟩,⟨(some 114),.ld none (.t 113),some (106,false)⟩,⟨(some 115),.fa 0 (.t 5),some (106,false)⟩,⟨(some 116),.ld none (.t 115),some (106,false)⟩,⟨(some 117),.iaS 6 (.t 114) (.t 116),some (106,false)⟩,⟨(some 118),.fa 1 (.t 117),some (106,false)⟩,⟨(some 119),.ld none (.t 118),some (106,false)⟩,⟨(some 120),.bin .neq (.t 112) (.t 119),some (106,false)⟩,Jq 121 (.pick (.t 106) (.k (.c (.bool true))) (.t 120)),Jm 122 121,⟨(some 123),.fa 10 (.t 1),some (122,false)⟩,⟨(some 124),.ld none (.t 123),some (122,false)⟩,⟨(some 125),.mv (.t 7),some (122,false)⟩,⟨(some 126),.iaS 6 (.t 124) (.t 125),some (122,false)⟩,⟨(some 127),.fa 3 (.t 126),some (122,false)⟩,⟨(some 128),.ld none (.t 127),some (122,false)⟩,⟨(some 129),.fa 10 (.t 1),some (122,false)⟩,⟨(some 130),.ld none (.t 129),some (122,false)⟩,⟨(some 131),.fa 0 (.t 5),some (122,false)⟩,⟨(some 132),.ld none (.t 131),some (122,false)⟩,⟨(some 133),.iaS 6 (.t 130) (.t 132),some (122,false)⟩,⟨(some 134),.fa 3 (.t 133),some (122,false)⟩,⟨(some 135),.ld none (.t 134),some (122,false)⟩,⟨(some 136),.bin .neq (.t 128) (.t 135),some (122,false)⟩,Jq 137 (.pick (.t 122) (.k (.c (.bool true))) (.t 136))]
abbrev oX1j_14:OLq:=[Jq 2 (.mv (.k (.c (.bool false))))]
abbrev oX1j_15:OLq:=[Jm 138 3,Jm 139 7,Jq 140 (.bsl 3 1 [(.int .i64 0)] [(0,1,(.t 139))]),Jq 141 (.app 3 1 8 (.t 138) (.t 140)),Jm 3 141]
abbrev oX1j_16:OLq:=[Jm 86 6,Jq 87 (.bin .add (.t 86) (Jk 1)),Jm 6 87]
def bX1j_17:IC:=(.seq (.seq (.ops oX1j_11) (.cond (.t 85) .skip (.exit 2))) (.seq (.block 3 (.seq (.ops oX1j_12) (.seq (.seq (.ops oX1j_13) (.cond (.t 137) (.seq (.ops oX1j_14) .ret) .skip)) (.ops oX1j_15)))) (.ops oX1j_16)))
abbrev oX1j_18:OLq:=[Jm 142 3,Je 143 142,Jf 144 10 1,Jl 145 144,Je 146 145,Jq 147 (.bin .gtr (.t 143) (.t 146))]
abbrev oX1j_19:OLq:=[Jq 2 (.mv (.k (.c (.bool false))))]
abbrev oX1j_20:OLq:=[Jm 24 4,Jq 25 (.bin .add (.t 24) (Jk 1)),Jm 4 25]
def bX1j_21:IC:=(.seq (.seq (.ops oX1j_5) (.cond (.t 23) .skip (.exit 0))) (.seq (.block 1 (.seq (.ops oX1j_6) (.seq (.seq (.ops oX1j_7) (.cond (.t 75) (.seq (.ops oX1j_8) .ret) .skip)) (.seq (.ops oX1j_9) (.seq (.seq (.ops oX1j_10) (.block 2 (.loop bX1j_17))) (.seq (.ops oX1j_18) (.cond (.t 147) (.seq (.ops oX1j_19) .ret) .skip))))))) (.ops oX1j_20)))
abbrev oX1j_22:OLq:=[Jq 8 (.mv (Jk 0))]
abbrev oX1j_23:OLq:=[Jm 148 8,Jf 149 10 1,Jl 150 149,Je 151 150,Jq 152 (.bin .lss (.t 148) (.t 151))]
abbrev oX1j_24:OLq:=[Jm 155 3,Jm 156 8,Jq 157 (.call (.k (.c (.fn fX1h [] []))) [.t 155,.t 156]),Jq 158 (.bin .gtr (.t 157) (Jk 1))]
abbrev oX1j_25:OLq:=[Jq 2 (.mv (.k (.c (.bool false))))]
abbrev oX1j_26:OLq:=[Jm 153 8,Jq 154 (.bin .add (.t 153) (Jk 1)),Jm 8 154]
def bX1j_27:IC:=(.seq (.seq (.ops oX1j_23) (.cond (.t 152) .skip (.exit 4))) (.seq (.block 5 (.seq (.ops oX1j_24) (.cond (.t 158) (.seq (.ops oX1j_25) .ret) .skip))) (.ops oX1j_26)))
abbrev oX1j_28:OLq:=[Jq 9 (.mv (Jk 0))]
abbrev oX1j_29:OLq:=[Jm 159 9,Jf 160 11 1,Jl 161 160,Je 162 161,Jq 163 (.bin .lss (.t 159) (.t 162))]
abbrev oX1j_30:OLq:=[Jq 10 (.mv (Jk 0))]
abbrev oX1j_31:OLq:=[Jm 166 10,Jm 167 9,Jq 168 (.bin .lss (.t 166) (.t 167))]
abbrev oX1j_32:OLq:=[Jf 171 11 1,Jl 172 171,Jm 173 9,Ji 174 3 172 173,Jq 175 (.ld (some 3) (.t 174)),Jq 11 (.new 100 (.agg [(.int .i64 0),(.sl none 0 0 false),(.int .i64 0)])),Kq (.st 3 (.t 11) (.t 175))]
abbrev oX1j_33:OLq:=[Jf 176 11 1,Jl 177 176,Jm 178 10,Ji 179 3 177 178,Jq 180 (.ld (some 3) (.t 179)),Jq 12 (.new 100 (.agg [(.int .i64 0),(.sl none 0 0 false),(.int .i64 0)])),Kq (.st 3 (.t 12) (.t 180))]
abbrev oX1j_34:OLq:=[Jf 181 10 1,Jl 182 181,Jf 183 0 11,Jl 184 183,Ji 185 6 182 184,Jq 186 (.ld (some 6) (.t 185)),Jq 13 (.new 158 (.agg (List.replicate 6 (.int .i64 0)))),Kq (.st 6 (.t 13) (.t 186))]
abbrev oX1j_35:OLq:=[Jf 187 10 1,Jl 188 187,Jf 189 0 12,Jl 190 189,Ji 191 6 188 190,Jq 192 (.ld (some 6) (.t 191)),Jq 14 (.new 158 (.agg (List.replicate 6 (.int .i64 0)))),Kq (.st 6 (.t 14) (.t 192))]
abbrev oX1j_36:OLq:=[Jf 193 8 1,Jl 194 193,Jf 195 0 13,Jl 196 195,Ji 197 3 194 196,Jf 198 0 197,Jl 199 198,Jf 200 8 1,Jl 201 200,Jf 202 0 14,Jl 203 202,Ji 204 3 201 203,Jf 205 0 204,Jl 206 205,Jq 207 (.bin .eql (.t 199) (.t 206)),Jm 208 207,⟨(some 209),.fa 2 (.t 11),some (208,true)⟩,⟨(some 210),.ld none (.t 209),some (208,true)⟩,⟨(some 211),.fa 2 (.t 11),some (208,true)⟩,⟨(some 212),.ld none (.t 211),some (208,true)⟩,⟨(some 213),.bin .add (.t 212) (Jk 1),some (208,true)⟩,⟨(some 214),.fa 3 (.t 13),some (208,true)⟩,⟨(some 215),.ld none (.t 214),some (208,true)⟩,⟨(some 216),.bin .add (.t 213) (.t 215),some (208,true)⟩,⟨(some 217),.fa 2 (.t 12),some (208,true)⟩,⟨(some 218),.ld none (.t 217),some (208,true)⟩,⟨(some 219),.fa 2 (.t 12),some (208,true)⟩,⟨(some 220),.ld none (.t 219),some (208,true)⟩,⟨(some 221),.bin .add (.t 220) (Jk 1),some (208,true)⟩,⟨(some 222),.fa 3 (.t 14),some (208,true)⟩,⟨(some 223),.ld none (.t 222),some (208,true)⟩,⟨(some 224),.bin .add (.t 221) (.t 223),some (208,true)⟩,⟨(some 225),.call (.k (.c (.fn fX1k [] []))) [.t 210,.t 216,.t 218,.t 224],some (208,true)⟩,Jq 226 (.pick (.t 208) (.t 225) (.k (.c (.bool false))))]
abbrev oX1j_37:OLq:=[Jq 2 (.mv (.k (.c (.bool false))))]
abbrev oX1j_38:OLq:=[Jm 169 10,Jq 170 (.bin .add (.t 169) (Jk 1)),Jm 10 170]
def bX1j_39:IC:=(.seq (.seq (.ops oX1j_31) (.cond (.t 168) .skip (.exit 8))) (.seq (.block 9 (.seq (.ops oX1j_32) (.seq (.ops oX1j_33) (.seq (.ops oX1j_34) (.seq (.ops oX1j_35) (.seq (.ops oX1j_36) (.cond (.t 226) (.seq (.ops oX1j_37) .ret) .skip))))))) (.ops oX1j_38)))
abbrev oX1j_40:OLq:=[Jm 164 9,Jq 165 (.bin .add (.t 164) (Jk 1)),Jm 9 165]
def bX1j_41:IC:=(.seq (.seq (.ops oX1j_29) (.cond (.t 163) .skip (.exit 6))) (.seq (.block 7 (.seq (.ops oX1j_30) (.block 8 (.loop bX1j_39)))) (.ops oX1j_40)))
abbrev oX1j_42:OLq:=[Jq 2 (.mv (.k (.c (.bool true))))]
def cX1j:IC:=(.seq (.ops oX1j_0) (.seq (.seq (.ops oX1j_1) (.cond (.t 18) (.seq (.ops oX1j_2) .ret) .skip)) (.seq (.ops oX1j_3) (.seq (.seq (.ops oX1j_4) (.block 0 (.loop bX1j_21))) (.seq (.seq (.ops oX1j_22) (.block 4 (.loop bX1j_27))) (.seq (.seq (.ops oX1j_28) (.block 6 (.loop bX1j_41))) (.seq (.ops oX1j_42) .ret)))))))
def iX1j:IFn:=⟨227,cX1j,[(2,none)]⟩
-- F 74 rota/rotaref07.bit: bads 0, calls []
abbrev oX1x_0:OLq:=[Jq 4 (.mv (.k (.c (.bool false))))]
abbrev oX1x_1:OLq:=[Jq 5 (.mv (Jk 0))]
abbrev oX1x_2:OLq:=[Jm 6 5,Jm 7 1,Jq 8 (.bin .lss (.t 6) (.t 7))]
abbrev oX1x_3:OLq:=[Jm 11 0,Jq 12 (.bin .quo (.t 11) (.k (.c (.int .u32 2)))),Jm 0 12]
abbrev oX1x_4:OLq:=[Jm 9 5,Jq 10 (.bin .add (.t 9) (Jk 1)),Jm 5 10]
def bX1x_5:IC:=(.seq (.seq (.ops oX1x_2) (.cond (.t 8) .skip (.exit 0))) (.seq (.block 1 (.ops oX1x_3)) (.ops oX1x_4)))
abbrev oX1x_6:OLq:=[Jm 13 0,Jq 14 (.bin .rem (.t 13) (.k (.c (.int .u32 2)))),Jq 15 (.bin .eql (.t 14) (.k (.c (.int .u32 1)))),Jm 4 15]
def cX1x:IC:=(.seq (.ops oX1x_0) (.seq (.seq (.ops oX1x_1) (.block 0 (.loop bX1x_5))) (.seq (.ops oX1x_6) .ret)))
def iX1x:IFn:=⟨16,cX1x,[(4,none)]⟩
-- F 75 sync/atomic.LoadUint64: NO BODY
-- F 76 rota/rotaref01.More: bads 0, calls [89]
abbrev oX18_0:OLq:=[Jq 4 (.mv (.k (.c (.int .u32 0))))]
abbrev oX18_1:OLq:=[Jm 7 0,Jq 8 (.bin .sub (.k (.c (.int .u32 4294967295))) (.t 7)),Jm 5 8]
abbrev oX18_2:OLq:=[Jq 6 (.mv (Jk 0))]
abbrev oX18_3:OLq:=[Jm 9 6,Jm 10 1,Je 11 10,Jq 12 (.bin .lss (.t 9) (.t 11))]
abbrev oX18_4:OLq:=[Jm 15 5,Jm 16 1,Jm 17 6,Ji 18 1 16 17,Jl 19 18,Jq 20 (.cv .u32 (.t 19)),Jq 21 (.bin .xor (.t 15) (.t 20)),Jq 22 (.call (.k (.c (.fn fX1a [] []))) [.t 21]),Jm 5 22]
abbrev oX18_5:OLq:=[Jm 13 6,Jq 14 (.bin .add (.t 13) (Jk 1)),Jm 6 14]
def bX18_6:IC:=(.seq (.seq (.ops oX18_3) (.cond (.t 12) .skip (.exit 0))) (.seq (.block 1 (.ops oX18_4)) (.ops oX18_5)))
abbrev oX18_7:OLq:=[Jm 23 5,Jq 24 (.bin .sub (.k (.c (.int .u32 4294967295))) (.t 23)),Jm 4 24]
def cX18:IC:=(.seq (.ops oX18_0) (.seq (.ops oX18_1) (.seq (.seq (.ops oX18_2) (.block 0 (.loop bX18_6))) (.seq (.ops oX18_7) .ret))))
def iX18:IFn:=⟨25,cX18,[(4,none)]⟩
-- F 77 rota/config.nodes: bads 0, calls [90, 91]
abbrev oXi_0:OLq:=[Jq 1 (.box 39 (.t 0)),Jq 2 (.mv (.k (.c (.bool false))))]
abbrev oXi_1:OLq:=[Jf 4 0 1,Jl 5 4,Jq 6 (.call (.k (.c (.fn fXp [] []))) [.t 5,(Jk 4),(Jk 16)]),Jq 7 (.un .not (.t 6)),Jm 8 7,⟨(some 9),.fa 1 (.t 1),some (8,false)⟩,⟨(some 10),.ld none (.t 9),some (8,false)⟩,⟨(some 11),.len false (.t 10),some (8,false)⟩,⟨(some 12),.fa 0 (.t 1),some (8,false)⟩,⟨(some 13),.ld none (.t 12),some (8,false)⟩,⟨(some 14),.bin .neq (.t 11) (.t 13),some (8,false)⟩,Jq 15 (.pick (.t 8) (.k (.c (.bool true))) (.t 14))]
abbrev oXi_2:OLq:=[Jq 2 (.mv (.k (.c (.bool false))))]
abbrev oXi_3:OLq:=[Jf 16 0 1,Jl 17 16,Jq 18 (.mv (Jk 0))]
abbrev oXi_4:OLq:=[Jq 19 (.bin .lss (.t 18) (.t 17))]
abbrev oXi_5:OLq:=[Jm 20 18,Jm 3 20]
abbrev oXi_6:OLq:=[Jf 21 1 1,Jl 22 21,Jm 23 3,Jq 24 (.call (.k (.c (.fn fX28 [] []))) [.t 22,.t 23]),Jq 25 (.un .not (.t 24))]
abbrev oXi_7:OLq:=[Jq 2 (.mv (.k (.c (.bool false))))]
abbrev oXi_8:OLq:=[Jq 26 (.bin .add (.t 18) (Jk 1)),Jm 18 26]
def bXi_9:IC:=(.seq (.ops oXi_4) (.seq (.cond (.t 19) .skip (.exit 0)) (.seq (.block 1 (.seq (.ops oXi_5) (.seq (.ops oXi_6) (.cond (.t 25) (.seq (.ops oXi_7) .ret) .skip)))) (.ops oXi_8))))
abbrev oXi_10:OLq:=[Jq 2 (.mv (.k (.c (.bool true))))]
def cXi:IC:=(.seq (.ops oXi_0) (.seq (.seq (.ops oXi_1) (.cond (.t 15) (.seq (.ops oXi_2) .ret) .skip)) (.seq (.seq (.ops oXi_3) (.block 0 (.loop bXi_9))) (.seq (.ops oXi_10) .ret))))
def iXi:IFn:=⟨27,cXi,[(2,none)]⟩
-- F 78 rota/config.clocks: bads 0, calls [90, 90, 92, 90, 90, 90, 90]
abbrev oXe_0:OLq:=[Jq 1 (.box 39 (.t 0)),Jq 2 (.mv (.k (.c (.bool false))))]
abbrev oXe_1:OLq:=[Jf 4 2 1,Jl 5 4,Jq 6 (.call (.k (.c (.fn fXp [] []))) [.t 5,(Jk 0),(Jk 1048576)]),Jq 7 (.un .not (.t 6)),Jm 8 7,⟨(some 9),.fa 3 (.t 1),some (8,false)⟩,⟨(some 10),.ld none (.t 9),some (8,false)⟩,⟨(some 11),.call (.k (.c (.fn fXp [] []))) [.t 10,(Jk 0),(Jk 1048576)],some (8,false)⟩,⟨(some 12),.un .not (.t 11),some (8,false)⟩,Jq 13 (.pick (.t 8) (.k (.c (.bool true))) (.t 12))]
abbrev oXe_2:OLq:=[Jq 2 (.mv (.k (.c (.bool false))))]
abbrev oXe_3:OLq:=[Jf 17 3 1,Jl 18 17,Jq 14 (.ld (some 12) (.t 1)),Jq 15 (.call (.k (.c (.fn fXd [] []))) [.t 14]),Kq (.same (some none) (.t 17) (.t 18)),Jq 16 (.bin .mul (Jk 2) (.t 15)),Jq 19 (.bin .add (.t 16) (.t 18)),Jm 3 19]
abbrev oXe_4:OLq:=[Jf 20 4 1,Jl 21 20,Jm 22 3,Jq 23 (.call (.k (.c (.fn fXp [] []))) [.t 21,.t 22,(Jk 16777216)]),Jm 24 23,⟨(some 25),.fa 5 (.t 1),some (24,true)⟩,⟨(some 26),.ld none (.t 25),some (24,true)⟩,⟨(some 27),.mv (.t 3),some (24,true)⟩,⟨(some 28),.call (.k (.c (.fn fXp [] []))) [.t 26,.t 27,(Jk 16777216)],some (24,true)⟩,Jq 29 (.pick (.t 24) (.t 28) (.k (.c (.bool false)))),Jm 30 29,⟨(some 31),.fa 6 (.t 1),some (30,true)⟩,⟨(some 32),.ld none (.t 31),some (30,true)⟩,⟨(some 33),.call (.k (.c (.fn fXp [] []))) [.t 32,(Jk 1),(Jk 8)],some (30,true)⟩,Jq 34 (.pick (.t 30) (.t 33) (.k (.c (.bool false)))),Jm 35 34,⟨(some 36),.fa 7 (.t 1),some (35,true)⟩,⟨(some 37),.ld none (.t 36),some (35,true)⟩,⟨(some 38),.call (.k (.c (.fn fXp [] []))) [.t 37,(Jk 1),(Jk 16)],some (35,true)⟩,Jq 39 (.pick (.t 35) (.t 38) (.k (.c (.bool false)))),Jm 2 39]
def cXe:IC:=(.seq (.ops oXe_0) (.seq (.seq (.ops oXe_1) (.cond (.t 13) (.seq (.ops oXe_2) .ret) .skip)) (.seq (.ops oXe_3) (.seq (.ops oXe_4) .ret))))
def iXe:IFn:=⟨40,cXe,[(2,none)]⟩
-- F 79 rota/config.parts: bads 0, calls [90, 90, 93, 94]
abbrev oXl_0:OLq:=[Jq 1 (.box 39 (.t 0)),Jq 2 (.new 4 (.c (.bool false)))]
abbrev oXl_1:OLq:=[Jf 9 8 1,Jl 10 9,Je 11 10,Jq 12 (.bin .gtr (.t 11) (Jk 32))]
abbrev oXl_2:OLq:=[Kq (.st 1 (.t 2) (.k (.c (.bool false))))]
abbrev oXl_3:OLq:=[Jf 13 8 1,Jl 14 13,Je 15 14,Jq 16 (.mv (Jk 0))]
abbrev oXl_4:OLq:=[Jq 17 (.bin .lss (.t 16) (.t 15))]
abbrev oXl_5:OLq:=[Ji 18 3 14 16,Jq 19 (.ld (some 3) (.t 18)),Jq 4 (.new 154 (.agg [(.int .i64 0),(.int .i64 0),(.int .i64 0)])),Kq (.st 3 (.t 4) (.t 19))]
abbrev oXl_6:OLq:=[Jf 20 0 4,Jl 21 20,Jf 22 0 1,Jl 23 22,Jq 24 (.bin .sub (.t 23) (Jk 1)),Jq 25 (.call (.k (.c (.fn fXp [] []))) [.t 21,(Jk 0),.t 24]),Jq 26 (.un .not (.t 25)),Jm 27 26,⟨(some 28),.fa 1 (.t 4),some (27,false)⟩,⟨(some 29),.ld none (.t 28),some (27,false)⟩,⟨(some 30),.fa 2 (.t 4),some (27,false)⟩,⟨(some 31),.ld none (.t 30),some (27,false)⟩,⟨(some 32),.call (.k (.c (.fn fXp [] []))) [.t 29,(Jk 0),.t 31],some (27,false)⟩,⟨(some 33),.un .not (.t 32),some (27,false)⟩,Jq 34 (.pick (.t 27) (.k (.c (.bool true))) (.t 33)),Jm 35 34,⟨(some 36),.fa 2 (.t 4),some (35,false)⟩,⟨(some 37),.ld none (.t 36),some (35,false)⟩,⟨(some 38),.bin .gtr (.t 37) (Jk 256),some (35,false)⟩,Jq 39 (.pick (.t 35) (.k (.c (.bool true))) (.t 38))]
abbrev oXl_7:OLq:=[Kq (.st 1 (.t 2) (.k (.c (.bool false))))]
abbrev oXl_8:OLq:=[Jq 40 (.bin .add (.t 16) (Jk 1)),Jm 16 40]
def bXl_9:IC:=(.seq (.ops oXl_4) (.seq (.cond (.t 17) .skip (.exit 0)) (.seq (.block 1 (.seq (.ops oXl_5) (.seq (.ops oXl_6) (.cond (.t 39) (.seq (.ops oXl_7) .ret) .skip)))) (.ops oXl_8))))
abbrev oXl_10:OLq:=[Jf 41 8 1,Jl 42 41,Je 43 42,Jq 44 (.call (.k (.c (.fn fXj [] []))) [.t 43])]
abbrev oXl_11:OLq:=[Jm 5 45]
abbrev oXl_12:OLq:=[Jm 6 46]
abbrev oXl_13:OLq:=[Jm 54 6,Jf 52 8 1,Jl 53 52,Ji 55 3 53 54,Jq 56 (.ld (some 3) (.t 55)),Jm 49 5,Jf 47 8 1,Jl 48 47,Ji 50 3 48 49,Jq 51 (.ld (some 3) (.t 50)),Jq 7 (.new 154 (.agg [(.int .i64 0),(.int .i64 0),(.int .i64 0)])),Jq 8 (.new 154 (.agg [(.int .i64 0),(.int .i64 0),(.int .i64 0)])),Kq (.st 3 (.t 7) (.t 51)),Kq (.same (some none) (.t 52) (.t 53)),Kq (.same (some (some 3)) (.t 55) (.t 56)),Kq (.st 3 (.t 8) (.t 56))]
abbrev oXl_14:OLq:=[Jf 57 0 7,Jl 58 57,Jf 59 0 8,Jl 60 59,Jq 61 (.bin .eql (.t 58) (.t 60)),Jm 62 61,⟨(some 63),.fa 1 (.t 7),some (62,true)⟩,⟨(some 64),.ld none (.t 63),some (62,true)⟩,⟨(some 65),.fa 2 (.t 7),some (62,true)⟩,⟨(some 66),.ld none (.t 65),some (62,true)⟩,⟨(some 67),.fa 1 (.t 8),some (62,true)⟩,⟨(some 68),.ld none (.t 67),some (62,true)⟩,⟨(some 69),.fa 2 (.t 8),some (62,true)⟩,⟨(some 70),.ld none (.t 69),some (62,true)⟩,⟨(some 71),.call (.k (.c (.fn fXh [] []))) [.t 64,.t 66,.t 68,.t 70],some (62,true)⟩,Jq 72 (.pick (.t 62) (.t 71) (.k (.c (.bool false))))]
abbrev oXl_15:OLq:=[Kq (.st 1 (.t 2) (.k (.c (.bool false))))]
def aXl_16:IC:=(.seq (.ops oXl_11) (.ops oXl_12))
def bXl_17:IC:=(.block 3 (.seq (.ops oXl_13) (.seq (.ops oXl_14) (.cond (.t 72) (.seq (.ops oXl_15) .ret) .skip))))
abbrev oXl_18:OLq:=[Kq (.st 1 (.t 2) (.k (.c (.bool true))))]
def cXl:IC:=(.seq (.ops oXl_0) (.seq (.seq (.ops oXl_1) (.cond (.t 12) (.seq (.ops oXl_2) .ret) .skip)) (.seq (.seq (.ops oXl_3) (.block 0 (.loop bXl_9))) (.seq (.seq (.ops oXl_10) (.block 2 (.rangeF (.t 44) [45,46] aXl_16 bXl_17))) (.seq (.ops oXl_18) .ret)))))
def iXl:IFn:=⟨73,cXl,[(2,(some none))]⟩
-- F 80 rota/config.windows: bads 0, calls [90]
abbrev oXo_0:OLq:=[Jq 1 (.box 39 (.t 0)),Jq 2 (.mv (.k (.c (.bool false))))]
abbrev oXo_1:OLq:=[Jf 7 9 1,Jl 8 7,Je 9 8,Jf 10 0 1,Jl 11 10,Jq 12 (.bin .neq (.t 9) (.t 11))]
abbrev oXo_2:OLq:=[Jq 2 (.mv (.k (.c (.bool false))))]
abbrev oXo_3:OLq:=[Jf 13 9 1,Jl 14 13,Je 15 14,Jq 16 (.mv (Jk 0))]
abbrev oXo_4:OLq:=[Jq 17 (.bin .lss (.t 16) (.t 15))]
abbrev oXo_5:OLq:=[Jm 18 16,Ji 19 1 14 16,Jl 20 19,Jm 3 18,Jm 4 20]
abbrev oXo_6:OLq:=[Jm 21 4,Je 22 21,Jf 23 0 1,Jl 24 23,Jq 25 (.bin .neq (.t 22) (.t 24))]
abbrev oXo_7:OLq:=[Jq 2 (.mv (.k (.c (.bool false))))]
abbrev oXo_8:OLq:=[Jm 26 4,Je 27 26,Jq 28 (.mv (Jk 0))]
abbrev oXo_9:OLq:=[Jq 29 (.bin .lss (.t 28) (.t 27))]
abbrev oXo_10:OLq:=[Ji 30 1 26 28,Jl 31 30,Jm 6 31]
abbrev oXo_11:OLq:=[Jm 32 6,Jq 33 (.bin .neq (.t 32) (Jk (-1))),Jm 34 33,⟨(some 35),.mv (.t 6),some (34,true)⟩,⟨(some 36),.fa 8 (.t 1),some (34,true)⟩,⟨(some 37),.ld none (.t 36),some (34,true)⟩,⟨(some 38),.len false (.t 37),some (34,true)⟩,⟨(some 39),.bin .sub (.t 38) (Jk 1),some (34,true)⟩,⟨(some 40),.call (.k (.c (.fn fXp [] []))) [.t 35,(Jk 0),.t 39],some (34,true)⟩,⟨(some 41),.un .not (.t 40),some (34,true)⟩,⟨(some 42),.mv (.t 41),some (34,true)⟩,⟨(some 43),.fa 8 (.t 1),some (42,false)⟩,⟨(some 44),.ld none (.t 43),some (42,false)⟩,⟨(some 45),.mv (.t 6),some (42,false)⟩,⟨(some 46),.iaS 3 (.t 44) (.t 45),some (42,false)⟩,⟨(some 47),.fa 0 (.t 46),some (42,false)⟩,⟨(some 48),.ld none (.t 47),some (42,false)⟩,⟨(some 49),.mv (.t 3),some (42,false)⟩,⟨(some 50),.bin .neq (.t 48) (.t 49),some (42,false)⟩,⟨(some 51),.pick (.t 42) (.k (.c (.bool true))) (.t 50),some (34,true)⟩,Jq 52 (.pick (.t 34) (.t 51) (.k (.c (.bool false))))]
abbrev oXo_12:OLq:=[Jq 2 (.mv (.k (.c (.bool false))))]
abbrev oXo_13:OLq:=[Jq 53 (.bin .add (.t 28) (Jk 1)),Jm 28 53]
def bXo_14:IC:=(.seq (.ops oXo_9) (.seq (.cond (.t 29) .skip (.exit 2)) (.seq (.block 3 (.seq (.ops oXo_10) (.seq (.ops oXo_11) (.cond (.t 52) (.seq (.ops oXo_12) .ret) .skip)))) (.ops oXo_13))))
abbrev oXo_15:OLq:=[Jq 54 (.bin .add (.t 16) (Jk 1)),Jm 16 54]
def bXo_16:IC:=(.seq (.ops oXo_4) (.seq (.cond (.t 17) .skip (.exit 0)) (.seq (.block 1 (.seq (.ops oXo_5) (.seq (.seq (.ops oXo_6) (.cond (.t 25) (.seq (.ops oXo_7) .ret) .skip)) (.seq (.ops oXo_8) (.block 2 (.loop bXo_14)))))) (.ops oXo_15))))
abbrev oXo_17:OLq:=[Jq 2 (.mv (.k (.c (.bool true))))]
def cXo:IC:=(.seq (.ops oXo_0) (.seq (.seq (.ops oXo_1) (.cond (.t 12) (.seq (.ops oXo_2) .ret) .skip)) (.seq (.seq (.ops oXo_3) (.block 0 (.loop bXo_16))) (.seq (.ops oXo_17) .ret))))
def iXo:IFn:=⟨55,cXo,[(2,none)]⟩
-- F 81 rota/config.ports: bads 0, calls [90, 90, 90]
abbrev oXn_0:OLq:=[Jq 1 (.box 39 (.t 0)),Jq 2 (.mv (.k (.c (.bool false))))]
abbrev oXn_1:OLq:=[Jf 7 10 1,Jl 8 7,Je 9 8,Jq 10 (.bin .gtr (.t 9) (Jk 64))]
abbrev oXn_2:OLq:=[Jq 2 (.mv (.k (.c (.bool false))))]
abbrev oXn_3:OLq:=[Jf 11 10 1,Jl 12 11,Je 13 12,Jq 14 (.mv (Jk 0))]
abbrev oXn_4:OLq:=[Jq 15 (.bin .lss (.t 14) (.t 13))]
abbrev oXn_5:OLq:=[Ji 16 6 12 14,Jq 17 (.ld (some 6) (.t 16)),Jq 4 (.new 158 (.agg (List.replicate 6 (.int .i64 0)))),Kq (.st 6 (.t 4) (.t 17))]
abbrev oXn_6:OLq:=[Jq 5 (.mv (Jk 0)),Jq 6 (.mv (Jk 0))]
abbrev oXn_7:OLq:=[Jf 19 1 4,Jl 20 19,Jq 21 (.bin .eql (.t 20) (Jk 2)),Jm 18 21]
abbrev oXn_8:OLq:=[Jf 22 4 4,Jl 23 22,Jq 24 (.mn (.t 23) [(Jk 8)]),Jq 25 (.mx (Jk 1) [.t 24]),Jm 5 25]
abbrev oXn_9:OLq:=[Jf 27 1 4,Jl 28 27,Jq 29 (.bin .eql (.t 28) (Jk 1)),Jm 30 29,⟨(some 31),.fa 2 (.t 4),some (30,true)⟩,⟨(some 32),.ld none (.t 31),some (30,true)⟩,⟨(some 33),.bin .eql (.t 32) (Jk 2),some (30,true)⟩,Jq 34 (.pick (.t 30) (.t 33) (.k (.c (.bool false)))),Jm 26 34]
abbrev oXn_10:OLq:=[Jf 35 5 4,Jl 36 35,Jq 37 (.mn (.t 36) [(Jk 65535)]),Jq 38 (.mx (Jk 1) [.t 37]),Jm 6 38]
abbrev oXn_11:OLq:=[Jf 40 1 4,Jl 41 40,Jq 42 (.bin .neq (.t 41) (Jk 1)),Jm 39 42]
abbrev oXn_12:OLq:=[Jq 2 (.mv (.k (.c (.bool false))))]
abbrev oXn_13:OLq:=[Jf 43 0 4,Jl 44 43,Jf 45 8 1,Jl 46 45,Je 47 46,Jq 48 (.bin .sub (.t 47) (Jk 1)),Jq 49 (.call (.k (.c (.fn fXp [] []))) [.t 44,(Jk 0),.t 48]),Jq 50 (.un .not (.t 49)),Jm 51 50,⟨(some 52),.fa 2 (.t 4),some (51,false)⟩,⟨(some 53),.ld none (.t 52),some (51,false)⟩,⟨(some 54),.call (.k (.c (.fn fXp [] []))) [.t 53,(Jk 1),(Jk 2)],some (51,false)⟩,⟨(some 55),.un .not (.t 54),some (51,false)⟩,Jq 56 (.pick (.t 51) (.k (.c (.bool true))) (.t 55)),Jm 57 56,⟨(some 58),.fa 3 (.t 4),some (57,false)⟩,⟨(some 59),.ld none (.t 58),some (57,false)⟩,⟨(some 60),.call (.k (.c (.fn fXp [] []))) [.t 59,(Jk 1),(Jk 32)],some (57,false)⟩,⟨(some 61),.un .not (.t 60),some (57,false)⟩,Jq 62 (.pick (.t 57) (.k (.c (.bool true))) (.t 61)),Jm 63 62,⟨(some 64),.fa 4 (.t 4),some (63,false)⟩,⟨(some 65),.ld none (.t 64),some (63,false)⟩,⟨(some 66),.mv (.t 5),some (63,false)⟩,⟨(some 67),.bin .neq (.t 65) (.t 66),some (63,false)⟩,Jq 68 (.pick (.t 63) (.k (.c (.bool true))) (.t 67)),Jm 69 68,⟨(some 70),.fa 5 (.t 4),some (69,false)⟩,⟨(some 71),.ld none (.t 70),some (69,false)⟩,⟨(some 72),.mv (.t 6),some (69,false)⟩,⟨(some 73),.bin .neq (.t 71) (.t 72),some (69,false)⟩,Jq 74 (.pick (.t 69) (.k (.c (.bool true))) (.t 73))]
abbrev oXn_14:OLq:=[Jq 2 (.mv (.k (.c (.bool false))))]
abbrev oXn_15:OLq:=[Jq 75 (.bin .add (.t 14) (Jk 1)),Jm 14 75]
def bXn_16:IC:=(.seq (.ops oXn_4) (.seq (.cond (.t 15) .skip (.exit 0)) (.seq (.block 1 (.seq (.ops oXn_5) (.seq (.ops oXn_6) (.seq (.block 2 (.seq (.ops oXn_7) (.cond (.t 18) (.ops oXn_8) (.seq (.ops oXn_9) (.cond (.t 26) (.ops oXn_10) (.seq (.ops oXn_11) (.cond (.t 39) (.seq (.ops oXn_12) .ret) .skip))))))) (.seq (.ops oXn_13) (.cond (.t 74) (.seq (.ops oXn_14) .ret) .skip)))))) (.ops oXn_15))))
abbrev oXn_17:OLq:=[Jq 2 (.mv (.k (.c (.bool true))))]
def cXn:IC:=(.seq (.ops oXn_0) (.seq (.seq (.ops oXn_1) (.cond (.t 10) (.seq (.ops oXn_2) .ret) .skip)) (.seq (.seq (.ops oXn_3) (.block 0 (.loop bXn_16))) (.seq (.ops oXn_17) .ret))))
def iXn:IFn:=⟨76,cXn,[(2,none)]⟩
-- F 82 rota/config.links: bads 0, calls [95, 90, 95, 93, 94]
abbrev oXg_0:OLq:=[Jq 1 (.box 39 (.t 0)),Jq 2 (.new 4 (.c (.bool false)))]
abbrev oXg_1:OLq:=[Jf 18 11 1,Jl 19 18,Je 20 19,Jq 21 (.bin .gtr (.t 20) (Jk 64))]
abbrev oXg_2:OLq:=[Kq (.st 1 (.t 2) (.k (.c (.bool false))))]
abbrev oXg_3:OLq:=[Jf 22 10 1,Jl 23 22,Je 24 23,Jq 25 (.mksl 3 1 8 [(.int .i64 0)] (.t 24) (.t 24)),Jm 3 25]
abbrev oXg_4:OLq:=[Jf 26 11 1,Jl 27 26,Je 28 27,Jq 29 (.mv (Jk 0))]
abbrev oXg_5:OLq:=[Jq 30 (.bin .lss (.t 29) (.t 28))]
abbrev oXg_6:OLq:=[Ji 31 3 27 29,Jq 32 (.ld (some 3) (.t 31)),Jq 5 (.new 100 (.agg [(.int .i64 0),(.sl none 0 0 false),(.int .i64 0)])),Kq (.st 3 (.t 5) (.t 32))]
abbrev oXg_7:OLq:=[Jq 34 (.ld (some 12) (.t 1)),Jf 35 0 5,Jl 36 35,Jq 37 (.call (.k (.c (.fn fXm [] []))) [.t 34,.t 36]),Jm 33 37,Jx 38 33 0,Jx 39 33 1,Jq 6 (.new 158 (.agg (List.replicate 6 (.int .i64 0)))),Kq (.st 6 (.t 6) (.t 38)),Jm 7 39]
abbrev oXg_8:OLq:=[Jm 40 7,Jq 41 (.un .not (.t 40)),Jm 42 41,⟨(some 43),.fa 2 (.t 6),some (42,false)⟩,⟨(some 44),.ld none (.t 43),some (42,false)⟩,⟨(some 45),.bin .neq (.t 44) (Jk 1),some (42,false)⟩,Jq 46 (.pick (.t 42) (.k (.c (.bool true))) (.t 45)),Jm 47 46,⟨(some 48),.fa 1 (.t 5),some (47,false)⟩,⟨(some 49),.ld none (.t 48),some (47,false)⟩,⟨(some 50),.len false (.t 49),some (47,false)⟩,⟨(some 51),.bin .eql (.t 50) (Jk 0),some (47,false)⟩,Jq 52 (.pick (.t 47) (.k (.c (.bool true))) (.t 51)),Jm 53 52,⟨(some 54),.fa 2 (.t 5),some (53,false)⟩,⟨(some 55),.ld none (.t 54),some (53,false)⟩,⟨(some 56),.fa 3 (.t 6),some (53,false)⟩,⟨(some 57),.ld none (.t 56),some (53,false)⟩,⟨(some 58),.bin .sub (Jk 63) (.t 57),some (53,false)⟩,⟨(some 59),.call (.k (.c (.fn fXp [] []))) [.t 55,(Jk 0),.t 58],some (53,false)⟩,⟨(some 60),.un .not (.t 59),some (53,false)⟩,Jq 61 (.pick (.t 53) (.k (.c (.bool true))) (.t 60)),Jm 62 61,⟨(some 63),.mv (.t 3),some (62,false)⟩,⟨(some 64),.fa 0 (.t 5),some (62,false)⟩,⟨(some 65),.ld none (.t 64),some (62,false)⟩,⟨(some 66),.iaS 1 (.t 63) (.t 65),some (62,false)⟩,⟨(some 67),.ld none (.t 66),some (62,false)⟩,⟨(some 68),.bin .gtr (.t 67) (Jk 0),some (62,false)⟩,Jq 69 (.pick (.t 62) (.k (.c (.bool true))) (.t 68))]
abbrev oXg_9:OLq:=[Kq (.st 1 (.t 2) (.k (.c (.bool false))))]
abbrev oXg_10:OLq:=[Jm 70 3,Jf 71 0 5,Jl 72 71,Ji 73 1 70 72,Jl 74 73,Jq 75 (.bin .add (.t 74) (Jk 1)),Ji 76 1 70 72,Kq (.st 1 (.t 76) (.t 75))]
abbrev oXg_11:OLq:=[Jf 77 1 5,Jl 78 77,Je 79 78,Jq 80 (.mv (Jk 0))]
abbrev oXg_12:OLq:=[Jq 81 (.bin .lss (.t 80) (.t 79))]
abbrev oXg_13:OLq:=[Jm 82 80,Ji 83 1 78 80,Jl 84 83,Jm 8 82,Jm 9 84]
abbrev oXg_14:OLq:=[Jq 86 (.ld (some 12) (.t 1)),Jm 87 9,Jq 88 (.call (.k (.c (.fn fXm [] []))) [.t 86,.t 87]),Jm 85 88,Jx 89 85 0,Jx 90 85 1,Jq 10 (.new 158 (.agg (List.replicate 6 (.int .i64 0)))),Kq (.st 6 (.t 10) (.t 89)),Jm 11 90]
abbrev oXg_15:OLq:=[Jm 91 11,Jq 92 (.un .not (.t 91)),Jm 93 92,⟨(some 94),.fa 2 (.t 10),some (93,false)⟩,⟨(some 95),.ld none (.t 94),some (93,false)⟩,⟨(some 96),.bin .neq (.t 95) (Jk 2),some (93,false)⟩,Jq 97 (.pick (.t 93) (.k (.c (.bool true))) (.t 96)),Jm 98 97,⟨(some 99),.fa 1 (.t 10),some (98,false)⟩,⟨(some 100),.ld none (.t 99),some (98,false)⟩,⟨(some 101),.fa 1 (.t 6),some (98,false)⟩,⟨(some 102),.ld none (.t 101),some (98,false)⟩,⟨(some 103),.bin .neq (.t 100) (.t 102),some (98,false)⟩,Jq 104 (.pick (.t 98) (.k (.c (.bool true))) (.t 103)),Jm 105 104,⟨(some 106),.fa 3 (.t 10),some (105,false)⟩,⟨(some 107),.ld none (.t 106),some (105,false)⟩,⟨(some 108),.fa 3 (.t 6),some (105,false)⟩,⟨(some 109),.ld none (.t 108),some (105,false)⟩,⟨(some 110),.bin .neq (.t 107) (.t 109),some (105,false)⟩,Jq 111 (.pick (.t 105) (.k (.c (.bool true))) (.t 110)),Jm 112 111,⟨(some 113),.mv (.t 3),some (112,false)⟩,⟨(some 114),.mv (.t 9),some (112,false)⟩,⟨(some 115),.iaS 1 (.t 113) (.t 114),some (112,false)⟩,⟨(some 116),.ld none (.t 115),some (112,false)⟩,⟨(some 117),.bin .gtr (.t 116) (Jk 0),some (112,false)⟩,Jq 118 (.pick (.t 112) (.k (.c (.bool true))) (.t 117))]
abbrev oXg_16:OLq:=[Kq (.st 1 (.t 2) (.k (.c (.bool false))))]
abbrev oXg_17:OLq:=[Jm 119 3,Jm 120 9,Ji 121 1 119 120,Jl 122 121,Jq 123 (.bin .add (.t 122) (Jk 1)),Ji 124 1 119 120,Kq (.st 1 (.t 124) (.t 123))]
abbrev oXg_18:OLq:=[Jm 125 8,Jf 126 1 5,Jl 127 126,Je 128 127,Jq 129 (.bin .sub (.t 128) (Jk 1)),Jq 130 (.bin .eql (.t 125) (.t 129))]
abbrev oXg_19:OLq:=[Jq 131 (.bin .add (.t 80) (Jk 1)),Jm 80 131]
def bXg_20:IC:=(.seq (.ops oXg_12) (.seq (.cond (.t 81) .skip (.exit 2)) (.seq (.block 3 (.seq (.ops oXg_13) (.seq (.ops oXg_14) (.seq (.seq (.ops oXg_15) (.cond (.t 118) (.seq (.ops oXg_16) .ret) .skip)) (.seq (.ops oXg_17) (.seq (.ops oXg_18) (.cond (.t 130) (.exit 1) .skip))))))) (.ops oXg_19))))
abbrev oXg_21:OLq:=[Jq 132 (.bin .add (.t 29) (Jk 1)),Jm 29 132]
def bXg_22:IC:=(.seq (.ops oXg_5) (.seq (.cond (.t 30) .skip (.exit 0)) (.seq (.block 1 (.seq (.ops oXg_6) (.seq (.ops oXg_7) (.seq (.seq (.ops oXg_8) (.cond (.t 69) (.seq (.ops oXg_9) .ret) .skip)) (.seq (.ops oXg_10) (.seq (.ops oXg_11) (.block 2 (.loop bXg_20)))))))) (.ops oXg_21))))
abbrev oXg_23:OLq:=[Jf 133 11 1,Jl 134 133,Je 135 134,Jq 136 (.call (.k (.c (.fn fXj [] []))) [.t 135])]
abbrev oXg_24:OLq:=[Jm 12 137]
abbrev oXg_25:OLq:=[Jm 13 138]
abbrev oXg_26:OLq:=[Jm 146 13,Jf 144 11 1,Jl 145 144,Ji 147 3 145 146,Jq 148 (.ld (some 3) (.t 147)),Jm 141 12,Jf 139 11 1,Jl 140 139,Ji 142 3 140 141,Jq 143 (.ld (some 3) (.t 142)),Jq 14 (.new 100 (.agg [(.int .i64 0),(.sl none 0 0 false),(.int .i64 0)])),Jq 15 (.new 100 (.agg [(.int .i64 0),(.sl none 0 0 false),(.int .i64 0)])),Kq (.st 3 (.t 14) (.t 143)),Kq (.same (some none) (.t 144) (.t 145)),Kq (.same (some (some 3)) (.t 147) (.t 148)),Kq (.st 3 (.t 15) (.t 148))]
abbrev oXg_27:OLq:=[Jf 157 0 15,Jl 158 157,Jf 155 10 1,Jl 156 155,Ji 159 6 156 158,Jq 160 (.ld (some 6) (.t 159)),Jf 151 0 14,Jl 152 151,Jf 149 10 1,Jl 150 149,Ji 153 6 150 152,Jq 154 (.ld (some 6) (.t 153)),Jq 16 (.new 158 (.agg (List.replicate 6 (.int .i64 0)))),Jq 17 (.new 158 (.agg (List.replicate 6 (.int .i64 0)))),Kq (.st 6 (.t 16) (.t 154)),Kq (.same (some none) (.t 157) (.t 158)),Kq (.same (some none) (.t 155) (.t 156)),Kq (.same (some (some 6)) (.t 159) (.t 160)),Kq (.st 6 (.t 17) (.t 160))]
abbrev oXg_28:OLq:=[Jf 161 8 1,Jl 162 161,Jf 163 0 16,Jl 164 163,Ji 165 3 162 164,Jf 166 0 165,Jl 167 166,Jf 168 8 1,Jl 169 168,Jf 170 0 17,Jl 171 170,Ji 172 3 169 171,Jf 173 0 172,Jl 174 173,Jq 175 (.bin .eql (.t 167) (.t 174)),Jm 176 175,⟨(some 177),.fa 2 (.t 14),some (176,true)⟩,⟨(some 178),.ld none (.t 177),some (176,true)⟩,⟨(some 179),.fa 2 (.t 14),some (176,true)⟩,⟨(some 180),.ld none (.t 179),some (176,true)⟩,⟨(some 181),.bin .add (.t 180) (Jk 1),some (176,true)⟩,⟨(some 182),.fa 3 (.t 16),some (176,true)⟩,⟨(some 183),.ld none (.t 182),some (176,true)⟩,⟨(some 184),.bin .add (.t 181) (.t 183),some (176,true)⟩,⟨(some 185),.fa 2 (.t 15),some (176,true)⟩,⟨(some 186),.ld none (.t 185),some (176,true)⟩,⟨(some 187),.fa 2 (.t 15),some (176,true)⟩,⟨(some 188),.ld none (.t 187),some (176,true)⟩,⟨(some 189),.bin .add (.t 188) (Jk 1),some (176,true)⟩,⟨(some 190),.fa 3 (.t 17),some (176,true)⟩,⟨(some 191),.ld none (.t 190),some (176,true)⟩,⟨(some 192),.bin .add (.t 189) (.t 191),some (176,true)⟩,⟨(some 193),.call (.k (.c (.fn fXh [] []))) [.t 178,.t 184,.t 186,.t 192],some (176,true)⟩,Jq 194 (.pick (.t 176) (.t 193) (.k (.c (.bool false))))]
abbrev oXg_29:OLq:=[Kq (.st 1 (.t 2) (.k (.c (.bool false))))]
def aXg_30:IC:=(.seq (.ops oXg_24) (.ops oXg_25))
def bXg_31:IC:=(.block 5 (.seq (.ops oXg_26) (.seq (.ops oXg_27) (.seq (.ops oXg_28) (.cond (.t 194) (.seq (.ops oXg_29) .ret) .skip)))))
abbrev oXg_32:OLq:=[Kq (.st 1 (.t 2) (.k (.c (.bool true))))]
def cXg:IC:=(.seq (.ops oXg_0) (.seq .skip (.seq (.seq (.ops oXg_1) (.cond (.t 21) (.seq (.ops oXg_2) .ret) .skip)) (.seq (.ops oXg_3) (.seq .skip (.seq (.seq (.ops oXg_4) (.block 0 (.loop bXg_22))) (.seq (.seq (.ops oXg_23) (.block 4 (.rangeF (.t 136) [137,138] aXg_30 bXg_31))) (.seq (.ops oXg_32) .ret))))))))
def iXg:IFn:=⟨195,cXg,[(2,(some none))]⟩
-- F 83 sync/atomic.AddUint64: NO BODY
-- F 84 rota/rotaref02.count: bads 0, calls []
abbrev oX1h_0:OLq:=[Jq 4 (.mv (Jk 0))]
abbrev oX1h_1:OLq:=[Jq 5 (.mv (Jk 0))]
abbrev oX1h_2:OLq:=[Jq 6 (.mv (Jk 0))]
abbrev oX1h_3:OLq:=[Jm 7 6,Jm 8 0,Je 9 8,Jq 10 (.bin .lss (.t 7) (.t 9))]
abbrev oX1h_4:OLq:=[Jm 13 0,Jm 14 6,Ji 15 1 13 14,Jl 16 15,Jm 17 1,Jq 18 (.bin .eql (.t 16) (.t 17))]
abbrev oX1h_5:OLq:=[Jm 19 5,Jq 20 (.bin .add (.t 19) (Jk 1)),Jm 5 20]
abbrev oX1h_6:OLq:=[Jm 11 6,Jq 12 (.bin .add (.t 11) (Jk 1)),Jm 6 12]
def bX1h_7:IC:=(.seq (.seq (.ops oX1h_3) (.cond (.t 10) .skip (.exit 0))) (.seq (.block 1 (.seq (.ops oX1h_4) (.cond (.t 18) (.ops oX1h_5) .skip))) (.ops oX1h_6)))
abbrev oX1h_8:OLq:=[Jm 21 5,Jm 4 21]
def cX1h:IC:=(.seq (.ops oX1h_0) (.seq (.ops oX1h_1) (.seq (.seq (.ops oX1h_2) (.block 0 (.loop bX1h_7))) (.seq (.ops oX1h_8) .ret))))
def iX1h:IFn:=⟨22,cX1h,[(4,none)]⟩
-- F 85 rota/rotaref02.Precision: bads 0, calls []
abbrev oX1e_0:OLq:=[Jq 1 (.box 39 (.t 0)),Jq 2 (.mv (Jk 0))]
abbrev oX1e_1:OLq:=[Jf 3 2 1,Jl 4 3,Jf 5 3 1,Jl 6 5,Jq 7 (.bin .add (.t 4) (.t 6)),Jq 8 (.bin .mul (Jk 2) (.t 7)),Jq 9 (.bin .add (.t 8) (Jk 1)),Jm 2 9]
def cX1e:IC:=(.seq (.ops oX1e_0) (.seq (.ops oX1e_1) .ret))
def iX1e:IFn:=⟨10,cX1e,[(2,none)]⟩
-- F 86 rota/rotaref02.meet: bads 0, calls []
abbrev oX1k_0:OLq:=[Jq 8 (.mv (.k (.c (.bool false))))]
abbrev oX1k_1:OLq:=[Jm 10 0,Jm 9 10]
abbrev oX1k_2:OLq:=[Jm 11 9,Jm 12 1,Jq 13 (.bin .lss (.t 11) (.t 12))]
abbrev oX1k_3:OLq:=[Jm 16 9,Jm 17 2,Jq 18 (.bin .geq (.t 16) (.t 17)),Jm 19 18,⟨(some 20),.mv (.t 9),some (19,true)⟩,⟨(some 21),.mv (.t 3),some (19,true)⟩,⟨(some 22),.bin .lss (.t 20) (.t 21),some (19,true)⟩,Jq 23 (.pick (.t 19) (.t 22) (.k (.c (.bool false))))]
abbrev oX1k_4:OLq:=[Jq 8 (.mv (.k (.c (.bool true))))]
abbrev oX1k_5:OLq:=[Jm 14 9,Jq 15 (.bin .add (.t 14) (Jk 1)),Jm 9 15]
def bX1k_6:IC:=(.seq (.seq (.ops oX1k_2) (.cond (.t 13) .skip (.exit 0))) (.seq (.block 1 (.seq (.ops oX1k_3) (.cond (.t 23) (.seq (.ops oX1k_4) .ret) .skip))) (.ops oX1k_5)))
abbrev oX1k_7:OLq:=[Jq 8 (.mv (.k (.c (.bool false))))]
def cX1k:IC:=(.seq (.ops oX1k_0) (.seq (.seq (.ops oX1k_1) (.block 0 (.loop bX1k_6))) (.seq (.ops oX1k_7) .ret)))
def iX1k:IFn:=⟨24,cX1k,[(8,none)]⟩
-- F 87 rota/rotaref02.Alone: bads 0, calls []
abbrev oX1b_0:OLq:=[Jq 1 (.box 158 (.t 0)),Jq 2 (.mv (.k (.c (.bool false))))]
abbrev oX1b_1:OLq:=[Jf 3 1 1,Jl 4 3,Jq 5 (.bin .lss (.t 4) (Jk 1)),Jm 6 5,⟨(some 7),.fa 1 (.t 1),some (6,false)⟩,⟨(some 8),.ld none (.t 7),some (6,false)⟩,⟨(some 9),.bin .gtr (.t 8) (Jk 2),some (6,false)⟩,Jq 10 (.pick (.t 6) (.k (.c (.bool true))) (.t 9)),Jm 11 10,⟨(some 12),.fa 2 (.t 1),some (11,false)⟩,⟨(some 13),.ld none (.t 12),some (11,false)⟩,⟨(some 14),.bin .lss (.t 13) (Jk 1),some (11,false)⟩,Jq 15 (.pick (.t 11) (.k (.c (.bool true))) (.t 14)),Jm 16 15,⟨(some 17),.fa 2 (.t 1),some (16,false)⟩,⟨(some 18),.ld none (.t 17),some (16,false)⟩,⟨(some 19),.bin .gtr (.t 18) (Jk 2),some (16,false)⟩,Jq 20 (.pick (.t 16) (.k (.c (.bool true))) (.t 19)),Jm 21 20,⟨(some 22),.fa 3 (.t 1),some (21,false)⟩,⟨(some 23),.ld none (.t 22),some (21,false)⟩,⟨(some 24),.bin .lss (.t 23) (Jk 1),some (21,false)⟩,Jq 25 (.pick (.t 21) (.k (.c (.bool true))) (.t 24)),Jm 26 25,⟨(some 27),.fa 3 (.t 1),some (26,false)⟩,⟨(some 28),.ld none (.t 27),some (26,false)⟩,⟨(some 29),.bin .gtr (.t 28) (Jk 32),some (26,false)⟩,Jq 30 (.pick (.t 26) (.k (.c (.bool true))) (.t 29))]
abbrev oX1b_2:OLq:=[Jq 2 (.mv (.k (.c (.bool false))))]
abbrev oX1b_3:OLq:=[Jf 31 1 1,Jl 32 31,Jq 33 (.bin .eql (.t 32) (Jk 2))]
abbrev oX1b_4:OLq:=[Jf 34 4 1,Jl 35 34,Jq 36 (.bin .geq (.t 35) (Jk 1)),Jm 37 36,⟨(some 38),.fa 4 (.t 1),some (37,true)⟩,⟨(some 39),.ld none (.t 38),some (37,true)⟩,⟨(some 40),.bin .leq (.t 39) (Jk 8),some (37,true)⟩,Jq 41 (.pick (.t 37) (.t 40) (.k (.c (.bool false)))),Jm 42 41,⟨(some 43),.fa 5 (.t 1),some (42,true)⟩,⟨(some 44),.ld none (.t 43),some (42,true)⟩,⟨(some 45),.bin .eql (.t 44) (Jk 0),some (42,true)⟩,Jq 46 (.pick (.t 42) (.t 45) (.k (.c (.bool false)))),Jm 2 46]
abbrev oX1b_5:OLq:=[Jf 47 2 1,Jl 48 47,Jq 49 (.bin .eql (.t 48) (Jk 2))]
abbrev oX1b_6:OLq:=[Jf 50 4 1,Jl 51 50,Jq 52 (.bin .eql (.t 51) (Jk 0)),Jm 53 52,⟨(some 54),.fa 5 (.t 1),some (53,true)⟩,⟨(some 55),.ld none (.t 54),some (53,true)⟩,⟨(some 56),.bin .geq (.t 55) (Jk 1),some (53,true)⟩,Jq 57 (.pick (.t 53) (.t 56) (.k (.c (.bool false)))),Jm 58 57,⟨(some 59),.fa 5 (.t 1),some (58,true)⟩,⟨(some 60),.ld none (.t 59),some (58,true)⟩,⟨(some 61),.bin .leq (.t 60) (Jk 65535),some (58,true)⟩,Jq 62 (.pick (.t 58) (.t 61) (.k (.c (.bool false)))),Jm 2 62]
abbrev oX1b_7:OLq:=[Jf 63 4 1,Jl 64 63,Jq 65 (.bin .eql (.t 64) (Jk 0)),Jm 66 65,⟨(some 67),.fa 5 (.t 1),some (66,true)⟩,⟨(some 68),.ld none (.t 67),some (66,true)⟩,⟨(some 69),.bin .eql (.t 68) (Jk 0),some (66,true)⟩,Jq 70 (.pick (.t 66) (.t 69) (.k (.c (.bool false)))),Jm 2 70]
def cX1b:IC:=(.seq (.ops oX1b_0) (.seq (.seq (.ops oX1b_1) (.cond (.t 30) (.seq (.ops oX1b_2) .ret) .skip)) (.seq (.seq (.ops oX1b_3) (.cond (.t 33) (.seq (.ops oX1b_4) .ret) .skip)) (.seq (.seq (.ops oX1b_5) (.cond (.t 49) (.seq (.ops oX1b_6) .ret) .skip)) (.seq (.ops oX1b_7) .ret)))))
def iX1b:IFn:=⟨71,cX1b,[(2,none)]⟩
-- F 88 rota/rotaref02.is: bads 0, calls []
abbrev oX1i_0:OLq:=[Jq 2 (.box 39 (.t 0)),Jq 4 (.mv (.k (.c (.bool false))))]
abbrev oX1i_1:OLq:=[Jm 5 1,Jq 6 (.bin .geq (.t 5) (Jk 0)),Jm 7 6,⟨(some 8),.mv (.t 1),some (7,true)⟩,⟨(some 9),.fa 10 (.t 2),some (7,true)⟩,⟨(some 10),.ld none (.t 9),some (7,true)⟩,⟨(some 11),.len false (.t 10),some (7,true)⟩,⟨(some 12),.bin .lss (.t 8) (.t 11),some (7,true)⟩,Jq 13 (.pick (.t 7) (.t 12) (.k (.c (.bool false)))),Jm 4 13]
def cX1i:IC:=(.seq (.ops oX1i_0) (.seq (.ops oX1i_1) .ret))
def iX1i:IFn:=⟨14,cX1i,[(4,none)]⟩
-- F 89 rota/rotaref01.steps: bads 0, calls []
abbrev oX1a_0:OLq:=[Jq 2 (.mv (.k (.c (.int .u32 0))))]
abbrev oX1a_1:OLq:=[Jq 3 (.mv (Jk 0))]
abbrev oX1a_2:OLq:=[Jm 5 3,Jq 6 (.bin .lss (.t 5) (Jk 8))]
abbrev oX1a_3:OLq:=[Jm 9 0,Jq 10 (.bin .rem (.t 9) (.k (.c (.int .u32 2)))),Jm 4 10]
abbrev oX1a_4:OLq:=[Jm 11 0,Jq 12 (.bin .quo (.t 11) (.k (.c (.int .u32 2)))),Jm 0 12]
abbrev oX1a_5:OLq:=[Jm 13 4,Jq 14 (.bin .eql (.t 13) (.k (.c (.int .u32 1))))]
abbrev oX1a_6:OLq:=[Jm 15 0,Jq 16 (.bin .xor (.t 15) (.k (.c (.int .u32 3988292384)))),Jm 0 16]
abbrev oX1a_7:OLq:=[Jm 7 3,Jq 8 (.bin .add (.t 7) (Jk 1)),Jm 3 8]
def bX1a_8:IC:=(.seq (.seq (.ops oX1a_2) (.cond (.t 6) .skip (.exit 0))) (.seq (.block 1 (.seq (.ops oX1a_3) (.seq (.ops oX1a_4) (.seq (.ops oX1a_5) (.cond (.t 14) (.ops oX1a_6) .skip))))) (.ops oX1a_7)))
abbrev oX1a_9:OLq:=[Jm 17 0,Jm 2 17]
def cX1a:IC:=(.seq (.ops oX1a_0) (.seq (.seq (.ops oX1a_1) (.block 0 (.loop bX1a_8))) (.seq (.ops oX1a_9) .ret)))
def iX1a:IFn:=⟨18,cX1a,[(2,none)]⟩
-- F 90 rota/config.within: bads 0, calls []
abbrev oXp_0:OLq:=[Jq 6 (.mv (.k (.c (.bool false))))]
abbrev oXp_1:OLq:=[Jm 7 0,Jm 8 1,Jq 9 (.bin .geq (.t 7) (.t 8)),Jm 10 9,⟨(some 11),.mv (.t 0),some (10,true)⟩,⟨(some 12),.mv (.t 2),some (10,true)⟩,⟨(some 13),.bin .leq (.t 11) (.t 12),some (10,true)⟩,Jq 14 (.pick (.t 10) (.t 13) (.k (.c (.bool false)))),Jm 6 14]
def cXp:IC:=(.seq (.ops oXp_0) (.seq (.ops oXp_1) .ret))
def iXp:IFn:=⟨15,cXp,[(6,none)]⟩
-- F 91 slices.Contains[[]int,int]: bads 0, calls [96]
abbrev oX28_0:OLq:=[Jq 4 (.mv (.k (.c (.bool false))))]
abbrev oX28_1:OLq:=[Jm 5 0,Jm 6 1,Jq 7 (.call (.k (.c (.fn fX2a [] []))) [.t 5,.t 6]),Jq 8 (.bin .geq (.t 7) (Jk 0)),Jm 4 8]
def cX28:IC:=(.seq (.ops oX28_0) (.seq (.ops oX28_1) .ret))
def iX28:IFn:=⟨9,cX28,[(4,none)]⟩
-- F 92 rota/config.Precision: bads 0, calls []
abbrev oXd_0:OLq:=[Jq 1 (.box 39 (.t 0)),Jq 2 (.mv (Jk 0))]
abbrev oXd_1:OLq:=[Jf 3 2 1,Jl 4 3,Jf 5 3 1,Jl 6 5,Jq 7 (.bin .add (.t 4) (.t 6)),Jq 8 (.bin .mul (Jk 2) (.t 7)),Jq 9 (.bin .add (.t 8) (Jk 1)),Jm 2 9]
def cXd:IC:=(.seq (.ops oXd_0) (.seq (.ops oXd_1) .ret))
def iXd:IFn:=⟨10,cXd,[(2,none)]⟩
-- F 93 rota/config.pairs: bads 0, calls [97]
abbrev oXj_0:OLq:=[Jq 1 (.box 3 (.t 0)),Jq 2 (.mv (.k (.c .nilFn)))]
abbrev oXj_1:OLq:=[Jq 3 (.mkfn fXk [] [.t 1]),Jm 2 3]
def cXj:IC:=(.seq (.ops oXj_0) (.seq (.ops oXj_1) .ret))
def iXj:IFn:=⟨4,cXj,[(2,none)]⟩
-- F 94 rota/config.meet: bads 0, calls []
abbrev oXh_0:OLq:=[Jq 8 (.mv (.k (.c (.bool false))))]
abbrev oXh_1:OLq:=[Jm 9 0,Jm 10 2,Jq 11 (.mx (.t 9) [.t 10]),Jm 12 1,Jm 13 3,Jq 14 (.mn (.t 12) [.t 13]),Jq 15 (.bin .lss (.t 11) (.t 14)),Jm 8 15]
def cXh:IC:=(.seq (.ops oXh_0) (.seq (.ops oXh_1) .ret))
def iXh:IFn:=⟨16,cXh,[(8,none)]⟩
-- F 95 rota/config.port: bads 0, calls [90]
abbrev oXm_0:OLq:=[Jq 2 (.box 39 (.t 0)),Jq 4 (.new 158 (.agg (List.replicate 6 (.int .i64 0)))),Jq 5 (.mv (.k (.c (.bool false))))]
abbrev oXm_1:OLq:=[Jm 6 1,Jf 7 10 2,Jl 8 7,Je 9 8,Jq 10 (.bin .sub (.t 9) (Jk 1)),Jq 11 (.call (.k (.c (.fn fXp [] []))) [.t 6,(Jk 0),.t 10]),Jq 12 (.un .not (.t 11))]
abbrev oXm_2:OLq:=[Jq 13 (.build (List.replicate 6 (.int .i64 0)) []),Kq (.st 6 (.t 4) (.t 13)),Jq 5 (.mv (.k (.c (.bool false))))]
abbrev oXm_3:OLq:=[Jf 14 10 2,Jl 15 14,Jm 16 1,Ji 17 6 15 16,Jq 18 (.ld (some 6) (.t 17)),Kq (.st 6 (.t 4) (.t 18)),Jq 5 (.mv (.k (.c (.bool true))))]
def cXm:IC:=(.seq (.ops oXm_0) (.seq (.seq (.ops oXm_1) (.cond (.t 12) (.seq (.ops oXm_2) .ret) .skip)) (.seq (.ops oXm_3) .ret)))
def iXm:IFn:=⟨19,cXm,[(4,(some (some 6))),(5,none)]⟩
-- F 96 slices.Index[[]int,int]: bads 0, calls []
abbrev oX2a_0:OLq:=[Jq 4 (.mv (Jk 0))]
abbrev oX2a_1:OLq:=[Jm 6 0,Je 7 6,Jq 8 (.mv (Jk 0))]
abbrev oX2a_2:OLq:=[Jq 9 (.bin .lss (.t 8) (.t 7))]
abbrev oX2a_3:OLq:=[Jm 10 8,Jm 5 10]
abbrev oX2a_4:OLq:=[Jm 11 1,Jm 12 0,Jm 13 5,Ji 14 1 12 13,Jl 15 14,Jq 16 (.bin .eql (.t 11) (.t 15))]
abbrev oX2a_5:OLq:=[Jm 17 5,Jm 4 17]
abbrev oX2a_6:OLq:=[Jq 18 (.bin .add (.t 8) (Jk 1)),Jm 8 18]
def bX2a_7:IC:=(.seq (.ops oX2a_2) (.seq (.cond (.t 9) .skip (.exit 0)) (.seq (.block 1 (.seq (.ops oX2a_3) (.seq (.ops oX2a_4) (.cond (.t 16) (.seq (.ops oX2a_5) .ret) .skip)))) (.ops oX2a_6))))
abbrev oX2a_8:OLq:=[Jq 4 (.mv (Jk (-1)))]
def cX2a:IC:=(.seq (.ops oX2a_0) (.seq (.seq (.ops oX2a_1) (.block 0 (.loop bX2a_7))) (.seq (.ops oX2a_8) .ret)))
def iX2a:IFn:=⟨19,cX2a,[(4,none)]⟩
-- F 97 rota/config.pairs$1: bads 0, calls []
abbrev oXk_0:OLq:=[Jl 5 1,Jq 6 (.mv (Jk 0))]
abbrev oXk_1:OLq:=[Jq 7 (.bin .lss (.t 6) (.t 5))]
abbrev oXk_2:OLq:=[Jm 8 6,Jm 3 8]
abbrev oXk_3:OLq:=[Jm 9 3,Jq 10 (.mv (Jk 0))]
abbrev oXk_4:OLq:=[Jq 11 (.bin .lss (.t 10) (.t 9))]
abbrev oXk_5:OLq:=[Jm 12 10,Jm 4 12]
abbrev oXk_6:OLq:=[Jm 13 0,Jm 14 4,Jm 15 3,Jq 16 (.call (.t 13) [.t 14,.t 15]),Jq 17 (.un .not (.t 16))]
abbrev oXk_7:OLq:=[Jq 18 (.bin .add (.t 10) (Jk 1)),Jm 10 18]
def bXk_8:IC:=(.seq (.ops oXk_4) (.seq (.cond (.t 11) .skip (.exit 2)) (.seq (.block 3 (.seq (.ops oXk_5) (.seq (.ops oXk_6) (.cond (.t 17) (.exit 0) .skip)))) (.ops oXk_7))))
abbrev oXk_9:OLq:=[Jq 19 (.bin .add (.t 6) (Jk 1)),Jm 6 19]
def bXk_10:IC:=(.seq (.ops oXk_1) (.seq (.cond (.t 7) .skip (.exit 0)) (.seq (.block 1 (.seq (.ops oXk_2) (.seq (.ops oXk_3) (.block 2 (.loop bXk_8))))) (.ops oXk_9))))
def cXk:IC:=(.seq .skip (.seq .skip (.seq (.ops oXk_0) (.block 0 (.loop bXk_10)))))
def iXk:IFn:=⟨20,cXk,[]⟩
def X:FuncId→Option (List V→Heap→Option (V × Heap)):=fun f=>if f=fX1 then some loadX else if f=fX0 then some addX else none
def fs:List (Nat × IFn):=[(fX16,iX16),(fXq,iXq),(fX20,iX20),(fX1d,iX1d),(fX17,iX17),(fXs,iXs),(fXc,iXc),(fXw,iXw),(fXu,iXu),(fXv,iXv),(fX1f,iX1f),(fX22,iX22),(fX25,iX25),(fX21,iX21),(fX1z,iX1z),(fX23,iX23),(fX24,iX24),(fXt,iXt),(fXr,iXr),(fXy,iXy),(fX1p,iX1p),(fXa,iXa),(fX15,iX15),(fX2c,iX2c),(fXx,iXx),(fX5,iX5),(fXz,iXz),(fX1w,iX1w),(fX1t,iX1t),(fX4,iX4),(fX14,iX14),(fX12,iX12),(fX2b,iX2b),(fX1s,iX1s),(fX1q,iX1q),(fX1r,iX1r),(fXb,iXb),(fX27,iX27),(fX8,iX8),(fX6,iX6),(fX7,iX7),(fX26,iX26),(fX10,iX10),(fX1c,iX1c),(fX1u,iX1u),(fX1v,iX1v),(fX1y,iX1y),(fX3,iX3),(fX13,iX13),(fX19,iX19),(fXf,iXf),(fX29,iX29),(fX9,iX9),(fX2,iX2),(fX11,iX11),(fX1l,iX1l),(fX1g,iX1g),(fX1m,iX1m),(fX1o,iX1o),(fX1n,iX1n),(fX1j,iX1j),(fX1x,iX1x),(fX18,iX18),(fXi,iXi),(fXe,iXe),(fXl,iXl),(fXo,iXo),(fXn,iXn),(fXg,iXg),(fX1h,iX1h),(fX1e,iX1e),(fX1k,iX1k),(fX1b,iX1b),(fX1i,iX1i),(fX1a,iX1a),(fXp,iXp),(fX28,iX28),(fXd,iXd),(fXj,iXj),(fXh,iXh),(fXm,iXm),(fX2a,iX2a),(fXk,iXk)]
def F:FuncId→Option Fun:=funsX fs X
theorem eX16:F fX16=some (.code ⟨154,cX16,[(4,none)]⟩):=by rfl
theorem eXq:F fXq=some (.code ⟨55,cXq,[(8,(some (some 67))),(9,none)]⟩):=by rfl
theorem eX20:F fX20=some (.code ⟨58,cX20,[(8,(some (some 67))),(9,none)]⟩):=by rfl
theorem eX1d:F fX1d=some (.code ⟨72,cX1d,[(2,none)]⟩):=by rfl
theorem eX17:F fX17=some (.code ⟨64,cX17,[(2,none)]⟩):=by rfl
theorem eXs:F fXs=some (.code ⟨39,cXs,[(2,none),(3,none)]⟩):=by rfl
theorem eXc:F fXc=some (.code ⟨28,cXc,[(4,none)]⟩):=by rfl
theorem eXw:F fXw=some (.code ⟨111,cXw,[(10,none),(11,none),(12,none)]⟩):=by rfl
theorem eXu:F fXu=some (.code ⟨38,cXu,[(6,none)]⟩):=by rfl
theorem eXv:F fXv=some (.code ⟨26,cXv,[(2,none),(3,none)]⟩):=by rfl
theorem eX1f:F fX1f=some (.code ⟨74,cX1f,[(2,(some (some 12)))]⟩):=by rfl
theorem eX22:F fX22=some (.code ⟨27,cX22,[(2,(some (some 98))),(3,none)]⟩):=by rfl
theorem eX25:F fX25=some (.code ⟨118,cX25,[(10,none),(11,none),(12,none)]⟩):=by rfl
theorem eX21:F fX21=some (.code ⟨26,cX21,[(4,none)]⟩):=by rfl
theorem eX1z:F fX1z=some (.code ⟨26,cX1z,[(4,none)]⟩):=by rfl
theorem eX23:F fX23=some (.code ⟨34,cX23,[(6,none)]⟩):=by rfl
theorem eX24:F fX24=some (.code ⟨31,cX24,[(2,none),(3,none)]⟩):=by rfl
theorem eXt:F fXt=some (.code ⟨18,cXt,[(2,none)]⟩):=by rfl
theorem eXr:F fXr=some (.code ⟨29,cXr,[(6,none)]⟩):=by rfl
theorem eXy:F fXy=some (.code ⟨40,cXy,[(6,(some (some 67))),(7,none)]⟩):=by rfl
theorem eX1p:F fX1p=some (.code ⟨41,cX1p,[(6,(some (some 67))),(7,none)]⟩):=by rfl
theorem eXa:F fXa=some (.code ⟨15,cXa,[(2,none),(3,none)]⟩):=by rfl
theorem eX15:F fX15=some (.code ⟨26,cX15,[(2,none)]⟩):=by rfl
theorem eX2c:F fX2c=some (.code ⟨5,cX2c,[(2,none)]⟩):=by rfl
theorem eXx:F fXx=some (.code ⟨13,cXx,[(2,none)]⟩):=by rfl
theorem eX5:F fX5=some (.code ⟨84,cX5,[(8,none),(9,none)]⟩):=by rfl
theorem eXz:F fXz=some (.code ⟨48,cXz,[(6,none)]⟩):=by rfl
theorem eX1w:F fX1w=some (.code ⟨14,cX1w,[(2,(some (some 3))),(3,none)]⟩):=by rfl
theorem eX1t:F fX1t=some (.code ⟨81,cX1t,[(8,none),(9,none),(10,none)]⟩):=by rfl
theorem eX4:F fX4=some (.code ⟨9,cX4,[(2,none)]⟩):=by rfl
theorem eX14:F fX14=some (.code ⟨40,cX14,[(2,(some (some 67))),(3,none)]⟩):=by rfl
theorem eX12:F fX12=some (.code ⟨38,cX12,[(4,none)]⟩):=by rfl
theorem eX2b:F fX2b=some (.code ⟨37,cX2b,[(4,none)]⟩):=by rfl
theorem eX1s:F fX1s=some (.code ⟨76,cX1s,[(2,(some (some 67))),(3,none)]⟩):=by rfl
theorem eX1q:F fX1q=some (.code ⟨30,cX1q,[(2,none)]⟩):=by rfl
theorem eX1r:F fX1r=some (.code ⟨44,cX1r,[(4,none)]⟩):=by rfl
theorem eXb:F fXb=some (.code ⟨13,cXb,[(2,none)]⟩):=by rfl
theorem eX27:F fX27=some (.code ⟨8,cX27,[(2,none)]⟩):=by rfl
theorem eX8:F fX8=some (.code ⟨44,cX8,[(6,none),(7,none)]⟩):=by rfl
theorem eX6:F fX6=some (.code ⟨5,cX6,[(1,none)]⟩):=by rfl
theorem eX7:F fX7=some (.code ⟨32,cX7,[(4,none)]⟩):=by rfl
theorem eX26:F fX26=some (.code ⟨8,cX26,[(2,none)]⟩):=by rfl
theorem eX10:F fX10=some (.code ⟨4,cX10,[(2,none)]⟩):=by rfl
theorem eX1c:F fX1c=some (.code ⟨21,cX1c,[(2,none)]⟩):=by rfl
theorem eX1u:F fX1u=some (.code ⟨65,cX1u,[(6,none),(7,none)]⟩):=by rfl
theorem eX1v:F fX1v=some (.code ⟨20,cX1v,[(4,none)]⟩):=by rfl
theorem eX1y:F fX1y=some (.code ⟨75,cX1y,[(6,none)]⟩):=by rfl
theorem eX3:F fX3=some (.code ⟨7,cX3,[(2,none)]⟩):=by rfl
theorem eX13:F fX13=some (.code ⟨18,cX13,[(2,none)]⟩):=by rfl
theorem eX19:F fX19=some (.code ⟨5,cX19,[(2,none)]⟩):=by rfl
theorem eXf:F fXf=some (.code ⟨28,cXf,[(4,none)]⟩):=by rfl
theorem eX29:F fX29=some (.code ⟨19,cX29,[(4,none)]⟩):=by rfl
theorem eX9:F fX9=some (.code ⟨12,cX9,[(3,none)]⟩):=by rfl
theorem eX2:F fX2=some (.code ⟨10,cX2,[(4,none)]⟩):=by rfl
theorem eX11:F fX11=some (.code ⟨23,cX11,[]⟩):=by rfl
theorem eX1l:F fX1l=some (.code ⟨31,cX1l,[(2,none)]⟩):=by rfl
theorem eX1g:F fX1g=some (.code ⟨70,cX1g,[(2,none)]⟩):=by rfl
theorem eX1m:F fX1m=some (.code ⟨90,cX1m,[(2,none)]⟩):=by rfl
theorem eX1o:F fX1o=some (.code ⟨64,cX1o,[(2,none)]⟩):=by rfl
theorem eX1n:F fX1n=some (.code ⟨43,cX1n,[(2,none)]⟩):=by rfl
theorem eX1j:F fX1j=some (.code ⟨227,cX1j,[(2,none)]⟩):=by rfl
theorem eX1x:F fX1x=some (.code ⟨16,cX1x,[(4,none)]⟩):=by rfl
theorem eX18:F fX18=some (.code ⟨25,cX18,[(4,none)]⟩):=by rfl
theorem eXi:F fXi=some (.code ⟨27,cXi,[(2,none)]⟩):=by rfl
theorem eXe:F fXe=some (.code ⟨40,cXe,[(2,none)]⟩):=by rfl
theorem eXl:F fXl=some (.code ⟨73,cXl,[(2,(some none))]⟩):=by rfl
theorem eXo:F fXo=some (.code ⟨55,cXo,[(2,none)]⟩):=by rfl
theorem eXn:F fXn=some (.code ⟨76,cXn,[(2,none)]⟩):=by rfl
theorem eXg:F fXg=some (.code ⟨195,cXg,[(2,(some none))]⟩):=by rfl
theorem eX1h:F fX1h=some (.code ⟨22,cX1h,[(4,none)]⟩):=by rfl
theorem eX1e:F fX1e=some (.code ⟨10,cX1e,[(2,none)]⟩):=by rfl
theorem eX1k:F fX1k=some (.code ⟨24,cX1k,[(8,none)]⟩):=by rfl
theorem eX1b:F fX1b=some (.code ⟨71,cX1b,[(2,none)]⟩):=by rfl
theorem eX1i:F fX1i=some (.code ⟨14,cX1i,[(4,none)]⟩):=by rfl
theorem eX1a:F fX1a=some (.code ⟨18,cX1a,[(2,none)]⟩):=by rfl
theorem eXp:F fXp=some (.code ⟨15,cXp,[(6,none)]⟩):=by rfl
theorem eX28:F fX28=some (.code ⟨9,cX28,[(4,none)]⟩):=by rfl
theorem eXd:F fXd=some (.code ⟨10,cXd,[(2,none)]⟩):=by rfl
theorem eXj:F fXj=some (.code ⟨4,cXj,[(2,none)]⟩):=by rfl
theorem eXh:F fXh=some (.code ⟨16,cXh,[(8,none)]⟩):=by rfl
theorem eXm:F fXm=some (.code ⟨19,cXm,[(4,(some (some 6))),(5,none)]⟩):=by rfl
theorem eX2a:F fX2a=some (.code ⟨19,cX2a,[(4,none)]⟩):=by rfl
theorem eXk:F fXk=some (.code ⟨20,cXk,[]⟩):=by rfl
end Go.Proofs.YtjcgdcadflplcaaDoor.AM.D21
