/- What the functions that this law reaches come to, each walked once, and the plain laws that stand behind them. -/
import Derived.Test.YtjcgdcadflplcaaDoorA3
import Derived.Test.YtjcgdcadflplcaaDoorA4
set_option linter.unusedVariables false
set_option linter.unusedSimpArgs false
set_option linter.unusedSectionVars false
namespace Go.Proofs.YtjcgdcadflplcaaDoor.AM.D21
open Go Go.Proofs.YtjcgdcadflplcaaDoor.AM
abbrev fX17:Nat:=8
abbrev fXq:Nat:=9
abbrev fX18:Nat:=11
abbrev fX1c:Nat:=12
abbrev fX19:Nat:=13
abbrev fXs:Nat:=14
abbrev fXc:Nat:=15
abbrev fX10:Nat:=16
abbrev fXw:Nat:=17
abbrev fXu:Nat:=19
abbrev fXv:Nat:=20
abbrev fXt:Nat:=28
abbrev fX1a:Nat:=29
abbrev fX1b:Nat:=30
abbrev fXr:Nat:=31
abbrev fXy:Nat:=32
abbrev fXa:Nat:=34
abbrev fX16:Nat:=35
abbrev fX1j:Nat:=36
abbrev fXx:Nat:=37
abbrev fX5:Nat:=38
abbrev fXz:Nat:=39
abbrev fX4:Nat:=42
abbrev fX15:Nat:=43
abbrev fX13:Nat:=44
abbrev fX1i:Nat:=45
abbrev fXb:Nat:=49
abbrev fX1e:Nat:=50
abbrev fX8:Nat:=51
abbrev fX6:Nat:=52
abbrev fX7:Nat:=53
abbrev fX1d:Nat:=54
abbrev fX11:Nat:=55
abbrev fX3:Nat:=60
abbrev fX14:Nat:=61
abbrev fXf:Nat:=63
abbrev fX1g:Nat:=64
abbrev fX9:Nat:=65
abbrev fX2:Nat:=66
abbrev fX12:Nat:=67
abbrev fX1:Nat:=75
abbrev fXi:Nat:=77
abbrev fXe:Nat:=78
abbrev fXl:Nat:=79
abbrev fXo:Nat:=80
abbrev fXn:Nat:=81
abbrev fXg:Nat:=82
abbrev fX0:Nat:=83
abbrev fXp:Nat:=90
abbrev fX1f:Nat:=91
abbrev fXd:Nat:=92
abbrev fXj:Nat:=93
abbrev fXh:Nat:=94
abbrev fXm:Nat:=95
abbrev fX1h:Nat:=96
abbrev fXk:Nat:=97
-- F 8 rota/rotalaw21.DualTurned: bads 0, calls [11, 12, 13, 14, 14, 17, 17, 19, 19, 20, 20, 28, 28]
abbrev OLq:=List IOper
abbrev Jq (d:Nat) (o:IOp):IOper:=⟨some d,o,none⟩
abbrev Kq (o:IOp):IOper:=⟨none,o,none⟩
abbrev Jm (d b:Nat):IOper:=⟨some d,.mv (.t b),none⟩
abbrev Jl (d b:Nat):IOper:=⟨some d,.ld none (.t b),none⟩
abbrev Jf (d k b:Nat):IOper:=⟨some d,.fa k (.t b),none⟩
abbrev Jn (d b:Nat):IOper:=⟨some d,.nilck (.t b),none⟩
abbrev Je (d b:Nat):IOper:=⟨some d,.len false (.t b),none⟩
abbrev Jx (d b k:Nat):IOper:=⟨some d,.ext (.t b) k,none⟩
abbrev Jk (n:Int):X:=.k (.c (.int .i64 n))
abbrev Ji (d k b c:Nat):IOper:=⟨some d,.iaS k (.t b) (.t c),none⟩
abbrev oX17_0:OLq:=[Jq 2 (.box 39 (.t 0)),Jq 4 (.mv (.k (.c (.bool false))))]
abbrev oX17_1:OLq:=[Jq 26 (.call (.k (.c (.fn fX18 [] []))) []),Jm 5 26]
abbrev oX17_2:OLq:=[Jq 27 (.ld (some 12) (.t 2)),Jq 28 (.call (.k (.c (.fn fX1c [] []))) [.t 27]),Jm 29 28,⟨(some 30),.mv (.t 1),some (29,false)⟩,⟨(some 31),.call (.k (.c (.fn fX19 [] []))) [.t 30],some (29,false)⟩,Jq 32 (.pick (.t 29) (.k (.c (.bool true))) (.t 31)),Jm 33 32,⟨(some 34),.mv (.t 5),some (33,false)⟩,⟨(some 35),.un .not (.t 34),some (33,false)⟩,Jq 36 (.pick (.t 33) (.k (.c (.bool true))) (.t 35))]
abbrev oX17_3:OLq:=[Jm 37 5,Jm 4 37]
abbrev oX17_4:OLq:=[Jq 39 (.ld (some 12) (.t 2)),Jq 40 (.call (.k (.c (.fn fXs [] []))) [.t 39]),Jm 38 40,Jx 41 38 0,Jx 42 38 1,Jm 6 41,Jm 7 42]
abbrev oX17_5:OLq:=[Jq 44 (.ld (some 12) (.t 2)),Jq 45 (.call (.k (.c (.fn fXs [] []))) [.t 44]),Jm 43 45,Jx 46 43 0,Jx 47 43 1,Jm 8 46,Jm 9 47]
abbrev oX17_6:OLq:=[Jm 48 7,Jq 49 (.bin .neq (.t 48) (Jk 0)),Jm 50 49,⟨(some 51),.mv (.t 9),some (50,false)⟩,⟨(some 52),.bin .neq (.t 51) (Jk 0),some (50,false)⟩,Jq 53 (.pick (.t 50) (.k (.c (.bool true))) (.t 52))]
abbrev oX17_7:OLq:=[Jm 54 5,Jm 55 54,⟨(some 56),.mv (.t 7),some (55,true)⟩,⟨(some 57),.mv (.t 9),some (55,true)⟩,⟨(some 58),.bin .eql (.t 56) (.t 57),some (55,true)⟩,Jq 59 (.pick (.t 55) (.t 58) (.k (.c (.bool false)))),Jm 4 59]
abbrev oX17_8:OLq:=[Jq 60 (.build (List.replicate 5 (.int .i64 0)) [(0,1,(Jk 0)),(1,1,(Jk 2)),(2,1,(Jk 1)),(3,1,(Jk 3)),(4,1,(Jk 4))]),Jq 10 (.new 77 (.agg (List.replicate 5 (.int .i64 0)))),Kq (.st 5 (.t 10) (.t 60))]
abbrev oX17_9:OLq:=[Jm 61 1,Je 62 61,Jq 63 (.mv (Jk 0))]
abbrev oX17_10:OLq:=[Jq 64 (.bin .lss (.t 63) (.t 62))]
abbrev oX17_11:OLq:=[Jm 65 63,Jm 11 65]
abbrev oX17_12:OLq:=[Jm 66 1,Jm 67 11,Ji 68 7 66 67,Jq 69 (.ld (some 7) (.t 68)),Jq 12 (.new 45 (.agg (List.replicate 2 (.int .i64 0)++[(.int .u16 0)]++List.replicate 4 (.sl none 0 0 false)))),Kq (.st 7 (.t 12) (.t 69))]
abbrev oX17_13:OLq:=[Jm 71 6,Jf 72 0 12,Jl 73 72,Jf 74 1 12,Jq 75 (.ld (some 2) (.t 74)),Jf 76 3 12,Jq 77 (.ld (some 2) (.t 76)),Jf 78 5 12,Jq 79 (.ld (some 2) (.t 78)),Jq 80 (.call (.k (.c (.fn fXw [] []))) [.t 71,.t 73,.t 75,.t 77,.t 79]),Jm 70 80,Jx 81 70 0,Jx 82 70 1,Jx 83 70 2,Jm 13 81,Jm 14 82,Jm 15 83]
abbrev oX17_14:OLq:=[Jm 85 8,Jf 86 0 12,Jl 87 86,Jf 88 1 12,Jq 89 (.ld (some 2) (.t 88)),Jf 90 3 12,Jq 91 (.iaA 2 1 (.t 90) (Jk 1)),Jl 92 91,Jf 93 3 12,Jq 94 (.iaA 2 1 (.t 93) (Jk 0)),Jl 95 94,Jq 96 (.build [(.sl none 0 0 false),(.sl none 0 0 false)] [(0,1,(.t 92)),(1,1,(.t 95))]),Jf 97 5 12,Jq 98 (.iaA 2 1 (.t 97) (Jk 1)),Jl 99 98,Jf 100 5 12,Jq 101 (.iaA 2 1 (.t 100) (Jk 0)),Jl 102 101,Jq 103 (.build [(.sl none 0 0 false),(.sl none 0 0 false)] [(0,1,(.t 99)),(1,1,(.t 102))]),Jq 104 (.call (.k (.c (.fn fXw [] []))) [.t 85,.t 87,.t 89,.t 96,.t 103]),Jm 84 104,Jx 105 84 0,Jx 106 84 1,Jx 107 84 2,Jm 16 105,Jm 17 106,Jm 18 107]
abbrev oX17_15:OLq:=[Jm 108 15,Jm 109 18,Jq 110 (.bin .neq (.t 108) (.t 109)),Jm 111 110,⟨(some 112),.mv (.t 13),some (111,false)⟩,⟨(some 113),.len false (.t 112),some (111,false)⟩,⟨(some 114),.mv (.t 16),some (111,false)⟩,⟨(some 115),.len false (.t 114),some (111,false)⟩,⟨(some 116),.bin .neq (.t 113) (.t 115),some (111,false)⟩,Jq 117 (.pick (.t 111) (.k (.c (.bool true))) (.t 116)),Jm 118 117,⟨(some 119),.mv (.t 14),some (118,false)⟩,⟨(some 120),.len false (.t 119),some (118,false)⟩,⟨(some 121),.mv (.t 17),some (118,false)⟩,⟨(some 122),.len false (.t 121),some (118,false)⟩,⟨(some 123),.bin .neq (.t 120) (.t 122),some (118,false)⟩,Jq 124 (.pick (.t 118) (.k (.c (.bool true))) (.t 123)),Jm 125 124,⟨(some 126),.mv (.t 13),some (125,false)⟩,⟨(some 127),.len false (.t 126),some (125,false)⟩,⟨(some 128),.mv (.t 14),some (125,false)⟩,⟨(some 129),.len false (.t 128),some (125,false)⟩,⟨(some 130),.bin .neq (.t 127) (.t 129),some (125,false)⟩,Jq 131 (.pick (.t 125) (.k (.c (.bool true))) (.t 130))]
abbrev oX17_16:OLq:=[Jq 4 (.mv (.k (.c (.bool false))))]
abbrev oX17_17:OLq:=[Jm 132 13,Je 133 132,Jq 134 (.mv (Jk 0))]
abbrev oX17_18:OLq:=[Jq 135 (.bin .lss (.t 134) (.t 133))]
abbrev oX17_19:OLq:=[Jm 136 134,Jm 19 136]
abbrev oX17_20:OLq:=[Jm 137 14,Jm 138 19,Ji 139 1 137 138,Jl 140 139,Jq 141 (.bin .lss (.t 140) (Jk 0)),Jm 142 141,⟨(some 143),.mv (.t 14),some (142,false)⟩,⟨(some 144),.mv (.t 19),some (142,false)⟩,⟨(some 145),.iaS 1 (.t 143) (.t 144),some (142,false)⟩,⟨(some 146),.ld none (.t 145),some (142,false)⟩,⟨(some 147),.bin .gtr (.t 146) (Jk 4),some (142,false)⟩,Jq 148 (.pick (.t 142) (.k (.c (.bool true))) (.t 147)),Jm 149 148,⟨(some 150),.mv (.t 13),some (149,false)⟩,⟨(some 151),.mv (.t 19),some (149,false)⟩,⟨(some 152),.iaS 67 (.t 150) (.t 151),some (149,false)⟩,⟨(some 153),.ld (some 67) (.t 152),some (149,false)⟩,⟨(some 154),.mv (.t 16),some (149,false)⟩,⟨(some 155),.mv (.t 19),some (149,false)⟩,⟨(some 156),.iaS 67 (.t 154) (.t 155),some (149,false)⟩,⟨(some 157),.ld (some 67) (.t 156),some (149,false)⟩,⟨(some 158),.eqagg [.int,.int,.int,.int,.int,.int,.int,.int,.int,.int,.int,.int,.int,.int,.int,.int,.int,.int,.int,.int,.int,.int,.int,.int,.int,.int,.int,.int,.int,.int,.int,.int,.int,.int,.int,.int,.int,.int,.int,.int,.int,.int,.int,.int,.int,.int,.int,.int,.int,.int,.int,.int,.int,.int,.int,.int,.int,.int,.int,.int,.int,.int,.int,.int,.int,.int,.int] true (.t 153) (.t 157),some (149,false)⟩,Jq 159 (.pick (.t 149) (.k (.c (.bool true))) (.t 158)),Jm 160 159,⟨(some 161),.mv (.t 17),some (160,false)⟩,⟨(some 162),.mv (.t 19),some (160,false)⟩,⟨(some 163),.iaS 1 (.t 161) (.t 162),some (160,false)⟩,⟨(some 164),.ld none (.t 163),some (160,false)⟩,⟨(some 165),.mv (.t 14),some (160,false)⟩,⟨(some 166),.mv (.t 19),some (160,false)⟩,⟨(some 167),.iaS 1 (.t 165) (.t 166),some (160,false)⟩,⟨(some 168),.ld none (.t 167),some (160,false)⟩,⟨(some 169),.iaA 5 1 (.t 10) (.t 168),some (160,false)⟩,⟨(some 170),.ld none (.t 169),some (160,false)⟩,⟨(some 171),.bin .neq (.t 164) (.t 170),some (160,false)⟩,Jq 172 (.pick (.t 160) (.k (.c (.bool true))) (.t 171))]
abbrev oX17_21:OLq:=[Jq 4 (.mv (.k (.c (.bool false))))]
abbrev oX17_22:OLq:=[Jq 173 (.bin .add (.t 134) (Jk 1)),Jm 134 173]
def bX17_23:IC:=(.seq (.ops oX17_18) (.seq (.cond (.t 135) .skip (.exit 2)) (.seq (.block 3 (.seq (.ops oX17_19) (.seq (.ops oX17_20) (.cond (.t 172) (.seq (.ops oX17_21) .ret) .skip)))) (.ops oX17_22))))
abbrev oX17_24:OLq:=[Jq 174 (.bin .add (.t 63) (Jk 1)),Jm 63 174]
def bX17_25:IC:=(.seq (.ops oX17_10) (.seq (.cond (.t 64) .skip (.exit 0)) (.seq (.block 1 (.seq (.ops oX17_11) (.seq (.ops oX17_12) (.seq (.ops oX17_13) (.seq (.ops oX17_14) (.seq (.seq (.ops oX17_15) (.cond (.t 131) (.seq (.ops oX17_16) .ret) .skip)) (.seq (.ops oX17_17) (.block 2 (.loop bX17_23))))))))) (.ops oX17_24))))
abbrev oX17_26:OLq:=[Jq 20 (.mv (Jk 0))]
abbrev oX17_27:OLq:=[Jm 175 20,Jf 176 0 2,Jl 177 176,Jq 178 (.bin .lss (.t 175) (.t 177))]
abbrev oX17_28:OLq:=[Jq 21 (.mv (Jk 0))]
abbrev oX17_29:OLq:=[Jm 181 21,Jq 182 (.bin .leq (.t 181) (Jk 4))]
abbrev oX17_30:OLq:=[Jm 191 21,Jq 192 (.iaA 5 1 (.t 10) (.t 191)),Jl 193 192,Jm 190 20,Jm 189 8,Jm 187 21,Jm 186 20,Jm 185 6,Jq 188 (.call (.k (.c (.fn fXu [] []))) [.t 185,.t 186,.t 187]),Kq (.same (some none) (.t 192) (.t 193)),Jq 194 (.call (.k (.c (.fn fXu [] []))) [.t 189,.t 190,.t 193]),Jq 195 (.bin .neq (.t 188) (.t 194))]
abbrev oX17_31:OLq:=[Jq 4 (.mv (.k (.c (.bool false))))]
abbrev oX17_32:OLq:=[Jm 183 21,Jq 184 (.bin .add (.t 183) (Jk 1)),Jm 21 184]
def bX17_33:IC:=(.seq (.seq (.ops oX17_29) (.cond (.t 182) .skip (.exit 6))) (.seq (.block 7 (.seq (.ops oX17_30) (.cond (.t 195) (.seq (.ops oX17_31) .ret) .skip))) (.ops oX17_32)))
abbrev oX17_34:OLq:=[Jm 179 20,Jq 180 (.bin .add (.t 179) (Jk 1)),Jm 20 180]
def bX17_35:IC:=(.seq (.seq (.ops oX17_27) (.cond (.t 178) .skip (.exit 4))) (.seq (.block 5 (.seq (.ops oX17_28) (.block 6 (.loop bX17_33)))) (.ops oX17_34)))
abbrev oX17_36:OLq:=[Jm 197 6,Jq 198 (.call (.k (.c (.fn fXv [] []))) [.t 197]),Jm 196 198,Jx 199 196 0,Jx 200 196 1,Jm 22 199,Jm 23 200]
abbrev oX17_37:OLq:=[Jm 202 8,Jq 203 (.call (.k (.c (.fn fXv [] []))) [.t 202]),Jm 201 203,Jx 204 201 0,Jx 205 201 1,Jm 24 204,Jm 25 205]
abbrev oX17_38:OLq:=[Jm 206 5,Jm 207 206,⟨(some 208),.mv (.t 22),some (207,true)⟩,⟨(some 209),.mv (.t 25),some (207,true)⟩,⟨(some 210),.bin .eql (.t 208) (.t 209),some (207,true)⟩,Jq 211 (.pick (.t 207) (.t 210) (.k (.c (.bool false)))),Jm 212 211,⟨(some 213),.mv (.t 23),some (212,true)⟩,⟨(some 214),.mv (.t 24),some (212,true)⟩,⟨(some 215),.bin .eql (.t 213) (.t 214),some (212,true)⟩,Jq 216 (.pick (.t 212) (.t 215) (.k (.c (.bool false)))),Jm 217 216,⟨(some 218),.mv (.t 6),some (217,true)⟩,⟨(some 219),.call (.k (.c (.fn fXt [] []))) [.t 218],some (217,true)⟩,⟨(some 220),.mv (.t 8),some (217,true)⟩,⟨(some 221),.call (.k (.c (.fn fXt [] []))) [.t 220],some (217,true)⟩,⟨(some 222),.bin .eql (.t 219) (.t 221),some (217,true)⟩,Jq 223 (.pick (.t 217) (.t 222) (.k (.c (.bool false)))),Jm 4 223]
def cX17:IC:=(.seq (.ops oX17_0) (.seq (.ops oX17_1) (.seq (.seq (.ops oX17_2) (.cond (.t 36) (.seq (.ops oX17_3) .ret) .skip)) (.seq (.ops oX17_4) (.seq (.ops oX17_5) (.seq (.seq (.ops oX17_6) (.cond (.t 53) (.seq (.ops oX17_7) .ret) .skip)) (.seq (.ops oX17_8) (.seq (.seq (.ops oX17_9) (.block 0 (.loop bX17_25))) (.seq (.seq (.ops oX17_26) (.block 4 (.loop bX17_35))) (.seq (.ops oX17_36) (.seq (.ops oX17_37) (.seq (.ops oX17_38) .ret))))))))))))
def iX17:IFn:=⟨224,cX17,[(4,none)]⟩
-- F 9 rota/dual.Choose: bads 0, calls [31]
abbrev oXq_0:OLq:=[Jq 4 (.box 3 (.t 0)),Jq 5 (.box 24 (.t 1)),Jq 8 (.new 29 (.agg (List.replicate 2 (.int .i64 0)++[(.int .u16 0)]++List.replicate 64 (.int .u8 0)))),Jq 9 (.mv (Jk 0))]
abbrev oXq_1:OLq:=[Jm 15 2,Jm 16 3,Jq 17 (.build [(.sl none 0 0 false),(.sl none 0 0 false)] [(0,1,(.t 15)),(1,1,(.t 16))]),Jq 10 (.new 26 (.agg [(.sl none 0 0 false),(.sl none 0 0 false)])),Kq (.st 2 (.t 10) (.t 17))]
abbrev oXq_2:OLq:=[Jq 11 (.new 94 (.agg (List.replicate 2 (.int .i64 0)++[(.int .u16 0)]++List.replicate 64 (.int .u8 0)++List.replicate 2 (.int .i64 0)++[(.int .u16 0)]++List.replicate 64 (.int .u8 0))))]
abbrev oXq_3:OLq:=[Jq 18 (.mkfn fXr [] [.t 10,.t 4,.t 5,.t 11]),Jm 12 18]
abbrev oXq_4:OLq:=[Jq 13 (.mv (Jk 0))]
abbrev oXq_5:OLq:=[Jq 19 (.mv (Jk 0))]
abbrev oXq_6:OLq:=[Jq 20 (.bin .lss (.t 19) (Jk 2))]
abbrev oXq_7:OLq:=[Jm 21 19,Jm 14 21]
abbrev oXq_8:OLq:=[Jm 22 12,Jm 23 14,Jq 24 (.call (.t 22) [.t 23])]
abbrev oXq_9:OLq:=[Jm 25 13,Jm 26 14,Jq 27 (.bin .add (Jk 1) (.t 26)),Jq 28 (.bin .add (.t 25) (.t 27)),Jm 13 28]
abbrev oXq_10:OLq:=[Jq 29 (.bin .add (.t 19) (Jk 1)),Jm 19 29]
def bXq_11:IC:=(.seq (.ops oXq_6) (.seq (.cond (.t 20) .skip (.exit 0)) (.seq (.block 1 (.seq (.ops oXq_7) (.seq (.ops oXq_8) (.cond (.t 24) (.ops oXq_9) .skip)))) (.ops oXq_10))))
abbrev oXq_12:OLq:=[Jm 31 13,Jq 32 (.bin .eql (.t 31) (Jk 3)),Jm 33 32,⟨(some 34),.iaA 2 67 (.t 11) (Jk 0),some (33,true)⟩,⟨(some 35),.ld (some 67) (.t 34),some (33,true)⟩,⟨(some 36),.iaA 2 67 (.t 11) (Jk 1),some (33,true)⟩,⟨(some 37),.ld (some 67) (.t 36),some (33,true)⟩,⟨(some 38),.eqagg [.int,.int,.int,.int,.int,.int,.int,.int,.int,.int,.int,.int,.int,.int,.int,.int,.int,.int,.int,.int,.int,.int,.int,.int,.int,.int,.int,.int,.int,.int,.int,.int,.int,.int,.int,.int,.int,.int,.int,.int,.int,.int,.int,.int,.int,.int,.int,.int,.int,.int,.int,.int,.int,.int,.int,.int,.int,.int,.int,.int,.int,.int,.int,.int,.int,.int,.int] true (.t 35) (.t 37),some (33,true)⟩,Jq 39 (.pick (.t 33) (.t 38) (.k (.c (.bool false)))),Jm 30 39]
abbrev oXq_13:OLq:=[Jq 40 (.build (List.replicate 2 (.int .i64 0)++[(.int .u16 0)]++List.replicate 64 (.int .u8 0)) []),Kq (.st 67 (.t 8) (.t 40)),Jq 9 (.mv (Jk 4))]
abbrev oXq_14:OLq:=[Jm 42 13,Jq 43 (.bin .eql (.t 42) (Jk 2)),Jm 41 43]
abbrev oXq_15:OLq:=[Jq 44 (.iaA 2 67 (.t 11) (Jk 1)),Jq 45 (.ld (some 67) (.t 44)),Jm 46 13,Kq (.st 67 (.t 8) (.t 45)),Jm 9 46]
abbrev oXq_16:OLq:=[Jm 48 13,Jq 49 (.bin .eql (.t 48) (Jk 0)),Jm 47 49]
abbrev oXq_17:OLq:=[Jq 50 (.build (List.replicate 2 (.int .i64 0)++[(.int .u16 0)]++List.replicate 64 (.int .u8 0)) []),Jm 51 13,Kq (.st 67 (.t 8) (.t 50)),Jm 9 51]
abbrev oXq_18:OLq:=[Jq 52 (.iaA 2 67 (.t 11) (Jk 0)),Jq 53 (.ld (some 67) (.t 52)),Jm 54 13,Kq (.st 67 (.t 8) (.t 53)),Jm 9 54]
def cXq:IC:=(.seq (.ops oXq_0) (.seq (.ops oXq_1) (.seq (.ops oXq_2) (.seq (.ops oXq_3) (.seq (.ops oXq_4) (.seq (.seq (.ops oXq_5) (.block 0 (.loop bXq_11))) (.seq (.block 2 (.seq (.ops oXq_12) (.cond (.t 30) (.seq (.ops oXq_13) .ret) (.seq (.ops oXq_14) (.cond (.t 41) (.seq (.ops oXq_15) .ret) (.seq (.ops oXq_16) (.cond (.t 47) (.seq (.ops oXq_17) .ret) .skip))))))) (.seq (.ops oXq_18) .ret))))))))
def iXq:IFn:=⟨55,cXq,[(8,(some (some 67))),(9,none)]⟩
-- F 11 rota/rotalaw21.alive: bads 0, calls [29, 30, 30, 30]
abbrev oX18_0:OLq:=[Jq 0 (.mv (.k (.c (.bool false))))]
abbrev oX18_1:OLq:=[Jq 2 (.call (.k (.c (.fn fX1a [] []))) [(.k (.c (.int .u8 7)))]),Jm 1 2]
abbrev oX18_2:OLq:=[Jm 3 1,Jm 4 1,Jq 5 (.call (.k (.c (.fn fX1b [] []))) [(Jk 0),.t 3,.t 4,(Jk 3),(.k (.c (.int .u8 7)))]),Jm 6 5,⟨(some 7),.mv (.t 1),some (6,true)⟩,⟨(some 8),.call (.k (.c (.fn fX1b [] []))) [(Jk 0),.t 7,(.k (.c (.sl none 0 0 false))),(Jk 1),(.k (.c (.int .u8 7)))],some (6,true)⟩,Jq 9 (.pick (.t 6) (.t 8) (.k (.c (.bool false)))),Jm 10 9,⟨(some 11),.mv (.t 1),some (10,true)⟩,⟨(some 12),.call (.k (.c (.fn fX1b [] []))) [(Jk 0),(.k (.c (.sl none 0 0 false))),.t 11,(Jk 2),(.k (.c (.int .u8 7)))],some (10,true)⟩,Jq 13 (.pick (.t 10) (.t 12) (.k (.c (.bool false)))),Jm 0 13]
def cX18:IC:=(.seq (.ops oX18_0) (.seq (.ops oX18_1) (.seq (.ops oX18_2) .ret)))
def iX18:IFn:=⟨14,cX18,[(0,none)]⟩
-- F 12 rota/rotaref02.Great: bads 0, calls []
abbrev oX1c_0:OLq:=[Jq 1 (.box 39 (.t 0)),Jq 2 (.mv (.k (.c (.bool false))))]
abbrev oX1c_1:OLq:=[Jf 6 1 1,Jl 7 6,Je 8 7,Jf 9 9 1,Jl 10 9,Je 11 10,Jq 12 (.bin .add (.t 8) (.t 11)),Jm 3 12]
abbrev oX1c_2:OLq:=[Jq 4 (.mv (Jk 0))]
abbrev oX1c_3:OLq:=[Jm 13 4,Jf 14 9 1,Jl 15 14,Je 16 15,Jq 17 (.bin .lss (.t 13) (.t 16)),Jm 18 17,⟨(some 19),.mv (.t 4),some (18,true)⟩,⟨(some 20),.bin .lss (.t 19) (Jk 100),some (18,true)⟩,Jq 21 (.pick (.t 18) (.t 20) (.k (.c (.bool false))))]
abbrev oX1c_4:OLq:=[Jm 24 3,Jf 25 9 1,Jl 26 25,Jm 27 4,Ji 28 1 26 27,Jl 29 28,Je 30 29,Jq 31 (.bin .add (.t 24) (.t 30)),Jm 3 31]
abbrev oX1c_5:OLq:=[Jm 22 4,Jq 23 (.bin .add (.t 22) (Jk 1)),Jm 4 23]
def bX1c_6:IC:=(.seq (.seq (.ops oX1c_3) (.cond (.t 21) .skip (.exit 0))) (.seq (.block 1 (.ops oX1c_4)) (.ops oX1c_5)))
abbrev oX1c_7:OLq:=[Jq 5 (.mv (Jk 0))]
abbrev oX1c_8:OLq:=[Jm 32 5,Jf 33 11 1,Jl 34 33,Je 35 34,Jq 36 (.bin .lss (.t 32) (.t 35)),Jm 37 36,⟨(some 38),.mv (.t 5),some (37,true)⟩,⟨(some 39),.bin .lss (.t 38) (Jk 100),some (37,true)⟩,Jq 40 (.pick (.t 37) (.t 39) (.k (.c (.bool false))))]
abbrev oX1c_9:OLq:=[Jm 43 3,Jf 44 11 1,Jl 45 44,Jm 46 5,Ji 47 3 45 46,Jf 48 1 47,Jl 49 48,Je 50 49,Jq 51 (.bin .add (.t 43) (.t 50)),Jm 3 51]
abbrev oX1c_10:OLq:=[Jm 41 5,Jq 42 (.bin .add (.t 41) (Jk 1)),Jm 5 42]
def bX1c_11:IC:=(.seq (.seq (.ops oX1c_8) (.cond (.t 40) .skip (.exit 2))) (.seq (.block 3 (.ops oX1c_9)) (.ops oX1c_10)))
abbrev oX1c_12:OLq:=[Jm 52 3,Jq 53 (.bin .gtr (.t 52) (Jk 1000)),Jm 54 53,⟨(some 55),.fa 8 (.t 1),some (54,false)⟩,⟨(some 56),.ld none (.t 55),some (54,false)⟩,⟨(some 57),.len false (.t 56),some (54,false)⟩,⟨(some 58),.bin .gtr (.t 57) (Jk 100),some (54,false)⟩,Jq 59 (.pick (.t 54) (.k (.c (.bool true))) (.t 58)),Jm 60 59,⟨(some 61),.fa 10 (.t 1),some (60,false)⟩,⟨(some 62),.ld none (.t 61),some (60,false)⟩,⟨(some 63),.len false (.t 62),some (60,false)⟩,⟨(some 64),.bin .gtr (.t 63) (Jk 100),some (60,false)⟩,Jq 65 (.pick (.t 60) (.k (.c (.bool true))) (.t 64)),Jm 66 65,⟨(some 67),.fa 11 (.t 1),some (66,false)⟩,⟨(some 68),.ld none (.t 67),some (66,false)⟩,⟨(some 69),.len false (.t 68),some (66,false)⟩,⟨(some 70),.bin .gtr (.t 69) (Jk 100),some (66,false)⟩,Jq 71 (.pick (.t 66) (.k (.c (.bool true))) (.t 70)),Jm 2 71]
def cX1c:IC:=(.seq (.ops oX1c_0) (.seq (.ops oX1c_1) (.seq (.seq (.ops oX1c_2) (.block 0 (.loop bX1c_6))) (.seq (.seq (.ops oX1c_7) (.block 2 (.loop bX1c_11))) (.seq (.ops oX1c_12) .ret)))))
def iX1c:IFn:=⟨72,cX1c,[(2,none)]⟩
-- F 13 rota/rotalaw21.great: bads 0, calls []
abbrev oX19_0:OLq:=[Jq 2 (.mv (.k (.c (.bool false))))]
abbrev oX19_1:OLq:=[Jm 6 0,Je 7 6,Jq 8 (.bin .gtr (.t 7) (Jk 40))]
abbrev oX19_2:OLq:=[Jq 2 (.mv (.k (.c (.bool true))))]
abbrev oX19_3:OLq:=[Jm 9 0,Je 10 9,Jq 11 (.mv (Jk 0))]
abbrev oX19_4:OLq:=[Jq 12 (.bin .lss (.t 11) (.t 10))]
abbrev oX19_5:OLq:=[Jm 13 11,Jm 3 13]
abbrev oX19_6:OLq:=[Jq 4 (.mv (Jk 0))]
abbrev oX19_7:OLq:=[Jm 14 4,Jq 15 (.bin .lss (.t 14) (Jk 2))]
abbrev oX19_8:OLq:=[Jm 18 0,Jm 19 3,Jm 20 4,Ji 21 7 18 19,Jf 22 3 21,Jq 23 (.iaA 2 1 (.t 22) (.t 20)),Jl 24 23,Je 25 24,Jq 26 (.bin .gtr (.t 25) (Jk 20)),Jm 27 26,⟨(some 28),.mv (.t 0),some (27,false)⟩,⟨(some 29),.mv (.t 3),some (27,false)⟩,⟨(some 30),.mv (.t 4),some (27,false)⟩,⟨(some 31),.iaS 7 (.t 28) (.t 29),some (27,false)⟩,⟨(some 32),.fa 5 (.t 31),some (27,false)⟩,⟨(some 33),.iaA 2 1 (.t 32) (.t 30),some (27,false)⟩,⟨(some 34),.ld none (.t 33),some (27,false)⟩,⟨(some 35),.len false (.t 34),some (27,false)⟩,⟨(some 36),.bin .gtr (.t 35) (Jk 40),some (27,false)⟩,Jq 37 (.pick (.t 27) (.k (.c (.bool true))) (.t 36))]
abbrev oX19_9:OLq:=[Jq 2 (.mv (.k (.c (.bool true))))]
abbrev oX19_10:OLq:=[Jm 38 0,Jm 39 3,Jm 40 4,Ji 41 7 38 39,Jf 42 3 41,Jq 43 (.iaA 2 1 (.t 42) (.t 40)),Jl 44 43,Je 45 44,Jq 46 (.mv (Jk 0))]
abbrev oX19_11:OLq:=[Jq 47 (.bin .lss (.t 46) (.t 45))]
abbrev oX19_12:OLq:=[Jm 48 46,Jm 5 48]
abbrev oX19_13:OLq:=[Jm 49 0,Jm 50 3,Jm 51 4,Ji 52 7 49 50,Jf 53 3 52,Jq 54 (.iaA 2 1 (.t 53) (.t 51)),Jl 55 54,Jm 56 5,Ji 57 2 55 56,Jf 58 1 57,Jl 59 58,Je 60 59,Jq 61 (.bin .gtr (.t 60) (Jk 200))]
abbrev oX19_14:OLq:=[Jq 2 (.mv (.k (.c (.bool true))))]
abbrev oX19_15:OLq:=[Jq 62 (.bin .add (.t 46) (Jk 1)),Jm 46 62]
def bX19_16:IC:=(.seq (.ops oX19_11) (.seq (.cond (.t 47) .skip (.exit 4)) (.seq (.block 5 (.seq (.ops oX19_12) (.seq (.ops oX19_13) (.cond (.t 61) (.seq (.ops oX19_14) .ret) .skip)))) (.ops oX19_15))))
abbrev oX19_17:OLq:=[Jm 16 4,Jq 17 (.bin .add (.t 16) (Jk 1)),Jm 4 17]
def bX19_18:IC:=(.seq (.seq (.ops oX19_7) (.cond (.t 15) .skip (.exit 2))) (.seq (.block 3 (.seq (.seq (.ops oX19_8) (.cond (.t 37) (.seq (.ops oX19_9) .ret) .skip)) (.seq (.ops oX19_10) (.block 4 (.loop bX19_16))))) (.ops oX19_17)))
abbrev oX19_19:OLq:=[Jq 63 (.bin .add (.t 11) (Jk 1)),Jm 11 63]
def bX19_20:IC:=(.seq (.ops oX19_4) (.seq (.cond (.t 12) .skip (.exit 0)) (.seq (.block 1 (.seq (.ops oX19_5) (.seq (.ops oX19_6) (.block 2 (.loop bX19_18))))) (.ops oX19_19))))
abbrev oX19_21:OLq:=[Jq 2 (.mv (.k (.c (.bool false))))]
def cX19:IC:=(.seq (.ops oX19_0) (.seq (.seq (.ops oX19_1) (.cond (.t 8) (.seq (.ops oX19_2) .ret) .skip)) (.seq (.seq (.ops oX19_3) (.block 0 (.loop bX19_20))) (.seq (.ops oX19_21) .ret))))
def iX19:IFn:=⟨64,cX19,[(2,none)]⟩
-- F 14 rota/dual.New: bads 0, calls [34]
abbrev oXs_0:OLq:=[Jq 1 (.box 39 (.t 0)),Jq 2 (.mv (.k (.c (.ptr none)))),Jq 3 (.mv (Jk 0))]
abbrev oXs_1:OLq:=[Jq 8 (.build ([(.int .i64 0)]++[(.sl none 0 0 false)]++List.replicate 6 (.int .i64 0)++List.replicate 4 (.sl none 0 0 false)++List.replicate 2 (.ptr none)++List.replicate 80 (.int .i64 0)) []),Jq 9 (.box 93 (.t 8)),Jm 4 9]
abbrev oXs_2:OLq:=[Jq 10 (.mv (Jk 0))]
abbrev oXs_3:OLq:=[Jq 11 (.bin .lss (.t 10) (Jk 2))]
abbrev oXs_4:OLq:=[Jm 12 10,Jm 5 12]
abbrev oXs_5:OLq:=[Jq 14 (.ld (some 12) (.t 1)),Jq 15 (.call (.k (.c (.fn fXa [] []))) [.t 14]),Jm 13 15,Jx 16 13 0,Jx 17 13 1,Jm 6 16,Jm 7 17]
abbrev oXs_6:OLq:=[Jm 18 7,Jq 19 (.bin .neq (.t 18) (Jk 0))]
abbrev oXs_7:OLq:=[Jm 20 7,Jq 2 (.mv (.k (.c (.ptr none)))),Jm 3 20]
abbrev oXs_8:OLq:=[Jm 21 4,Jm 22 5,Jm 23 6,Jn 24 21,Jf 25 12 24,Jq 26 (.iaA 2 1 (.t 25) (.t 22)),Kq (.st 1 (.t 26) (.t 23))]
abbrev oXs_9:OLq:=[Jq 27 (.bin .add (.t 10) (Jk 1)),Jm 10 27]
def bXs_10:IC:=(.seq (.ops oXs_3) (.seq (.cond (.t 11) .skip (.exit 0)) (.seq (.block 1 (.seq (.ops oXs_4) (.seq (.ops oXs_5) (.seq (.seq (.ops oXs_6) (.cond (.t 19) (.seq (.ops oXs_7) .ret) .skip)) (.ops oXs_8))))) (.ops oXs_9))))
abbrev oXs_11:OLq:=[Jf 32 1 1,Jl 33 32,Jf 29 0 1,Jl 30 29,Jm 28 4,Jq 31 (.bsl 3 0 [] []),Jq 34 (.app 3 1 8 (.t 31) (.t 33)),Kq (.same (some none) (.t 29) (.t 30)),Jq 35 (.build ([(.int .i64 0)]++[(.sl none 0 0 false)]++List.replicate 6 (.int .i64 0)++List.replicate 4 (.sl none 0 0 false)) [(0,1,(.t 30)),(1,1,(.t 34))]),Jn 36 28,Jf 37 0 36,Kq (.st 12 (.t 37) (.t 35))]
abbrev oXs_12:OLq:=[Jm 38 4,Jm 2 38,Jq 3 (.mv (Jk 0))]
def cXs:IC:=(.seq (.ops oXs_0) (.seq (.ops oXs_1) (.seq (.seq (.ops oXs_2) (.block 0 (.loop bXs_10))) (.seq (.ops oXs_11) (.seq (.ops oXs_12) .ret)))))
def iXs:IFn:=⟨39,cXs,[(2,none),(3,none)]⟩
-- F 15 rota/config.Owner: bads 0, calls []
abbrev oXc_0:OLq:=[Jq 2 (.box 39 (.t 0)),Jq 4 (.mv (Jk 0))]
abbrev oXc_1:OLq:=[Jm 5 1,Jq 6 (.bin .lss (.t 5) (Jk 0)),Jm 7 6,⟨(some 8),.fa 0 (.t 2),some (7,false)⟩,⟨(some 9),.ld none (.t 8),some (7,false)⟩,⟨(some 10),.bin .lss (.t 9) (Jk 1),some (7,false)⟩,Jq 11 (.pick (.t 7) (.k (.c (.bool true))) (.t 10)),Jm 12 11,⟨(some 13),.fa 1 (.t 2),some (12,false)⟩,⟨(some 14),.ld none (.t 13),some (12,false)⟩,⟨(some 15),.len false (.t 14),some (12,false)⟩,⟨(some 16),.fa 0 (.t 2),some (12,false)⟩,⟨(some 17),.ld none (.t 16),some (12,false)⟩,⟨(some 18),.bin .neq (.t 15) (.t 17),some (12,false)⟩,Jq 19 (.pick (.t 12) (.k (.c (.bool true))) (.t 18))]
abbrev oXc_2:OLq:=[Jq 4 (.mv (Jk (-1)))]
abbrev oXc_3:OLq:=[Jf 20 1 2,Jl 21 20,Jm 22 1,Jf 23 0 2,Jl 24 23,Jq 25 (.bin .rem (.t 22) (.t 24)),Ji 26 1 21 25,Jl 27 26,Jm 4 27]
def cXc:IC:=(.seq (.ops oXc_0) (.seq (.seq (.ops oXc_1) (.cond (.t 19) (.seq (.ops oXc_2) .ret) .skip)) (.seq (.ops oXc_3) .ret)))
def iXc:IFn:=⟨28,cXc,[(4,none)]⟩
-- F 16 rota/frame.Encode: bads 0, calls [35, 36]
abbrev oX10_0:OLq:=[Jq 1 (.box 29 (.t 0)),Jq 2 (.mv (.k (.c (.sl none 0 0 false)))),Jq 3 (.mv (Jk 0))]
abbrev oX10_1:OLq:=[Jf 6 0 1,Jl 7 6,Jq 8 (.bin .lss (.t 7) (Jk 0)),Jm 9 8,⟨(some 10),.fa 0 (.t 1),some (9,false)⟩,⟨(some 11),.ld none (.t 10),some (9,false)⟩,⟨(some 12),.bin .geq (.t 11) (Jk 16),some (9,false)⟩,Jq 13 (.pick (.t 9) (.k (.c (.bool true))) (.t 12)),Jm 14 13,⟨(some 15),.fa 1 (.t 1),some (14,false)⟩,⟨(some 16),.fa 0 (.t 15),some (14,false)⟩,⟨(some 17),.ld none (.t 16),some (14,false)⟩,⟨(some 18),.bin .lss (.t 17) (Jk 0),some (14,false)⟩,Jq 19 (.pick (.t 14) (.k (.c (.bool true))) (.t 18)),Jm 20 19,⟨(some 21),.fa 1 (.t 1),some (20,false)⟩,⟨(some 22),.fa 0 (.t 21),some (20,false)⟩,⟨(some 23),.ld none (.t 22),some (20,false)⟩,⟨(some 24),.bin .gtr (.t 23) (Jk 2147483647),some (20,false)⟩,Jq 25 (.pick (.t 20) (.k (.c (.bool true))) (.t 24))]
abbrev oX10_2:OLq:=[Jq 2 (.mv (.k (.c (.sl none 0 0 false)))),Jq 3 (.mv (Jk 2))]
abbrev oX10_3:OLq:=[Jf 34 3 1,Jq 35 (.slA 64 1 (.t 34) none none none),Jf 29 0 1,Jl 30 29,Jq 31 (.cv .u8 (.t 30)),Jf 26 1 1,Jq 27 (.ld (some 2) (.t 26)),Jq 28 (.call (.k (.c (.fn fX16 [] []))) [.t 27]),Kq (.same (some none) (.t 29) (.t 30)),Jq 32 (.bsl 5 1 [(.int .u8 0)] [(0,1,(.t 31))]),Jq 33 (.app 5 1 1 (.t 28) (.t 32)),Jq 36 (.app 5 1 1 (.t 33) (.t 35)),Jm 4 36]
abbrev oX10_4:OLq:=[Jm 37 4,Jq 38 (.call (.k (.c (.fn fX1j [] []))) [.t 37]),Jm 5 38]
abbrev oX10_5:OLq:=[Jm 39 4,Jm 40 5,Jq 41 (.cv .u8 (.t 40)),Jm 42 5,Jq 43 (.bin .shr (.t 42) (.k (.c (.int .u64 8)))),Jq 44 (.cv .u8 (.t 43)),Jm 45 5,Jq 46 (.bin .shr (.t 45) (.k (.c (.int .u64 16)))),Jq 47 (.cv .u8 (.t 46)),Jm 48 5,Jq 49 (.bin .shr (.t 48) (.k (.c (.int .u64 24)))),Jq 50 (.cv .u8 (.t 49)),Jq 51 (.bsl 5 4 (List.replicate 4 (.int .u8 0)) [(0,1,(.t 41)),(1,1,(.t 44)),(2,1,(.t 47)),(3,1,(.t 50))]),Jq 52 (.app 5 1 1 (.t 39) (.t 51)),Jm 2 52,Jq 3 (.mv (Jk 0))]
def cX10:IC:=(.seq (.ops oX10_0) (.seq (.seq (.ops oX10_1) (.cond (.t 25) (.seq (.ops oX10_2) .ret) .skip)) (.seq (.ops oX10_3) (.seq (.ops oX10_4) (.seq (.ops oX10_5) .ret)))))
def iX10:IFn:=⟨53,cX10,[(2,none),(3,none)]⟩
-- F 17 (*rota/dual.Pair).Step: bads 0, calls [37, 38, 15, 9]
abbrev oXw_0:OLq:=[Jq 7 (.box 24 (.t 2)),Jq 8 (.box 41 (.t 3)),Jq 9 (.box 43 (.t 4)),Jq 10 (.mv (.k (.c (.sl none 0 0 false)))),Jq 11 (.mv (.k (.c (.sl none 0 0 false)))),Jq 12 (.mv (Jk 0))]
abbrev oXw_1:OLq:=[Jm 23 0,Jq 24 (.call (.k (.c (.fn fXx [] []))) [.t 23])]
abbrev oXw_2:OLq:=[Jq 10 (.mv (.k (.c (.sl none 0 0 false)))),Jq 11 (.mv (.k (.c (.sl none 0 0 false)))),Jq 12 (.mv (Jk 1))]
abbrev oXw_3:OLq:=[Jm 25 1,Jq 26 (.bin .lss (.t 25) (Jk 0))]
abbrev oXw_4:OLq:=[Jq 10 (.mv (.k (.c (.sl none 0 0 false)))),Jq 11 (.mv (.k (.c (.sl none 0 0 false)))),Jq 12 (.mv (Jk 2))]
abbrev oXw_5:OLq:=[Jq 13 (.new 107 (.agg [(.sl none 0 0 false),(.sl none 0 0 false)]))]
abbrev oXw_6:OLq:=[Jq 27 (.mv (Jk 0))]
abbrev oXw_7:OLq:=[Jq 28 (.bin .lss (.t 27) (Jk 2))]
abbrev oXw_8:OLq:=[Jm 29 27,Jm 14 29]
abbrev oXw_9:OLq:=[Jm 31 0,Jm 32 14,Jn 33 31,Jf 34 12 33,Jq 35 (.iaA 2 1 (.t 34) (.t 32)),Jl 36 35,Jm 37 1,Jm 38 14,Jq 39 (.iaA 2 1 (.t 8) (.t 38)),Jl 40 39,Jm 41 14,Jq 42 (.iaA 2 1 (.t 9) (.t 41)),Jl 43 42,Jq 44 (.call (.k (.c (.fn fX5 [] []))) [.t 36,.t 37,.t 40,.t 43]),Jm 30 44,Jx 45 30 0,Jx 46 30 1,Jm 15 45,Jm 16 46]
abbrev oXw_10:OLq:=[Jm 47 16,Jq 48 (.bin .neq (.t 47) (Jk 0))]
abbrev oXw_11:OLq:=[Jm 49 16,Jq 10 (.mv (.k (.c (.sl none 0 0 false)))),Jq 11 (.mv (.k (.c (.sl none 0 0 false)))),Jm 12 49]
abbrev oXw_12:OLq:=[Jm 50 14,Jm 51 15,Jq 52 (.iaA 2 1 (.t 13) (.t 50)),Kq (.st 1 (.t 52) (.t 51))]
abbrev oXw_13:OLq:=[Jq 53 (.bin .add (.t 27) (Jk 1)),Jm 27 53]
def bXw_14:IC:=(.seq (.ops oXw_7) (.seq (.cond (.t 28) .skip (.exit 0)) (.seq (.block 1 (.seq (.ops oXw_8) (.seq (.ops oXw_9) (.seq (.seq (.ops oXw_10) (.cond (.t 48) (.seq (.ops oXw_11) .ret) .skip)) (.ops oXw_12))))) (.ops oXw_13))))
abbrev oXw_15:OLq:=[Jm 54 0,Jn 55 54,Jf 56 0 55,Jq 57 (.ld (some 12) (.t 56)),Jm 58 1,Jq 59 (.call (.k (.c (.fn fXc [] []))) [.t 57,.t 58]),Jm 17 59]
abbrev oXw_16:OLq:=[Jq 18 (.mv (.k (.c (.sl none 0 0 false))))]
abbrev oXw_17:OLq:=[Jq 19 (.mv (.k (.c (.sl none 0 0 false))))]
abbrev oXw_18:OLq:=[Jm 60 0,Jn 61 60,Jf 62 0 61,Jf 63 0 62,Jl 64 63,Jq 65 (.mv (Jk 0))]
abbrev oXw_19:OLq:=[Jq 66 (.bin .lss (.t 65) (.t 64))]
abbrev oXw_20:OLq:=[Jm 67 65,Jm 20 67]
abbrev oXw_21:OLq:=[Jm 69 17,Jq 70 (.ld (some 2) (.t 7)),Jq 71 (.iaA 2 1 (.t 13) (Jk 0)),Jl 72 71,Jm 73 20,Ji 74 1 72 73,Jl 75 74,Jq 76 (.iaA 2 1 (.t 13) (Jk 1)),Jl 77 76,Jm 78 20,Ji 79 1 77 78,Jl 80 79,Jq 81 (.call (.k (.c (.fn fXq [] []))) [.t 69,.t 70,.t 75,.t 80]),Jm 68 81,Jx 82 68 0,Jx 83 68 1,Jq 21 (.new 29 (.agg (List.replicate 2 (.int .i64 0)++[(.int .u16 0)]++List.replicate 64 (.int .u8 0)))),Kq (.st 67 (.t 21) (.t 82)),Jm 22 83]
abbrev oXw_22:OLq:=[Jm 84 18,Jq 85 (.ld (some 67) (.t 21)),Jq 86 (.bsl 29 1 (List.replicate 2 (.int .i64 0)++[(.int .u16 0)]++List.replicate 64 (.int .u8 0)) [(0,67,(.t 85))]),Jq 87 (.app 29 67 88 (.t 84) (.t 86)),Jm 88 19,Jm 89 22,Jq 90 (.bsl 3 1 [(.int .i64 0)] [(0,1,(.t 89))]),Jq 91 (.app 3 1 8 (.t 88) (.t 90)),Jm 18 87,Jm 19 91]
abbrev oXw_23:OLq:=[Jm 92 20,Jm 93 17,Jq 94 (.bin .neq (.t 92) (.t 93))]
abbrev oXw_24:OLq:=[Jm 95 0,Jm 96 17,Jm 97 22,Jn 98 95,Jf 99 14 98,Jq 100 (.iaA 16 5 (.t 99) (.t 96)),Jq 101 (.iaA 5 1 (.t 100) (.t 97)),Jl 102 101,Jq 103 (.bin .add (.t 102) (Jk 1)),Jn 104 95,Jf 105 14 104,Jq 106 (.iaA 16 5 (.t 105) (.t 96)),Jq 107 (.iaA 5 1 (.t 106) (.t 97)),Kq (.st 1 (.t 107) (.t 103))]
abbrev oXw_25:OLq:=[Jq 108 (.bin .add (.t 65) (Jk 1)),Jm 65 108]
def bXw_26:IC:=(.seq (.ops oXw_19) (.seq (.cond (.t 66) .skip (.exit 2)) (.seq (.block 3 (.seq (.ops oXw_20) (.seq (.ops oXw_21) (.seq (.ops oXw_22) (.seq (.ops oXw_23) (.cond (.t 94) (.ops oXw_24) .skip)))))) (.ops oXw_25))))
abbrev oXw_27:OLq:=[Jm 109 18,Jm 110 19,Jm 10 109,Jm 11 110,Jq 12 (.mv (Jk 0))]
def cXw:IC:=(.seq (.ops oXw_0) (.seq (.seq (.ops oXw_1) (.cond (.t 24) (.seq (.ops oXw_2) .ret) .skip)) (.seq (.seq (.ops oXw_3) (.cond (.t 26) (.seq (.ops oXw_4) .ret) .skip)) (.seq (.ops oXw_5) (.seq (.seq (.ops oXw_6) (.block 0 (.loop bXw_14))) (.seq (.ops oXw_15) (.seq (.ops oXw_16) (.seq (.ops oXw_17) (.seq (.seq (.ops oXw_18) (.block 2 (.loop bXw_26))) (.seq (.ops oXw_27) .ret))))))))))
def iXw:IFn:=⟨111,cXw,[(10,none),(11,none),(12,none)]⟩
-- F 19 (*rota/dual.Pair).Count: bads 0, calls [37]
abbrev oXu_0:OLq:=[Jq 6 (.mv (Jk 0))]
abbrev oXu_1:OLq:=[Jm 7 0,Jq 8 (.call (.k (.c (.fn fXx [] []))) [.t 7]),Jm 9 8,⟨(some 10),.mv (.t 1),some (9,false)⟩,⟨(some 11),.bin .lss (.t 10) (Jk 0),some (9,false)⟩,Jq 12 (.pick (.t 9) (.k (.c (.bool true))) (.t 11)),Jm 13 12,⟨(some 14),.mv (.t 1),some (13,false)⟩,⟨(some 15),.mv (.t 0),some (13,false)⟩,⟨(some 16),.nilck (.t 15),some (13,false)⟩,⟨(some 17),.fa 0 (.t 16),some (13,false)⟩,⟨(some 18),.fa 0 (.t 17),some (13,false)⟩,⟨(some 19),.ld none (.t 18),some (13,false)⟩,⟨(some 20),.bin .geq (.t 14) (.t 19),some (13,false)⟩,Jq 21 (.pick (.t 13) (.k (.c (.bool true))) (.t 20)),Jm 22 21,⟨(some 23),.mv (.t 2),some (22,false)⟩,⟨(some 24),.bin .lss (.t 23) (Jk 0),some (22,false)⟩,Jq 25 (.pick (.t 22) (.k (.c (.bool true))) (.t 24)),Jm 26 25,⟨(some 27),.mv (.t 2),some (26,false)⟩,⟨(some 28),.bin .geq (.t 27) (Jk 5),some (26,false)⟩,Jq 29 (.pick (.t 26) (.k (.c (.bool true))) (.t 28))]
abbrev oXu_2:OLq:=[Jq 6 (.mv (Jk 0))]
abbrev oXu_3:OLq:=[Jm 30 0,Jm 31 1,Jm 32 2,Jn 33 30,Jf 34 14 33,Jq 35 (.iaA 16 5 (.t 34) (.t 31)),Jq 36 (.iaA 5 1 (.t 35) (.t 32)),Jl 37 36,Jm 6 37]
def cXu:IC:=(.seq (.ops oXu_0) (.seq (.seq (.ops oXu_1) (.cond (.t 29) (.seq (.ops oXu_2) .ret) .skip)) (.seq (.ops oXu_3) .ret)))
def iXu:IFn:=⟨38,cXu,[(6,none)]⟩
-- F 20 (*rota/dual.Pair).Losses: bads 0, calls [37]
abbrev oXv_0:OLq:=[Jq 2 (.mv (Jk 0)),Jq 3 (.mv (Jk 0))]
abbrev oXv_1:OLq:=[Jm 6 0,Jq 7 (.call (.k (.c (.fn fXx [] []))) [.t 6])]
abbrev oXv_2:OLq:=[Jq 2 (.mv (Jk 0)),Jq 3 (.mv (Jk 0))]
abbrev oXv_3:OLq:=[Jm 8 0,Jn 9 8,Jf 10 14 9,Jq 11 (.ld (some 80) (.t 10)),Jq 12 (.mv (Jk 0))]
abbrev oXv_4:OLq:=[Jq 13 (.bin .lss (.t 12) (Jk 16))]
abbrev oXv_5:OLq:=[Jq 14 (.ix 16 5 (some 5) (.t 11) (.t 12)),Jq 5 (.new 77 (.agg (List.replicate 5 (.int .i64 0)))),Kq (.st 5 (.t 5) (.t 14))]
abbrev oXv_6:OLq:=[Jm 15 2,Jq 16 (.iaA 5 1 (.t 5) (Jk 2)),Jl 17 16,Jq 18 (.bin .add (.t 15) (.t 17)),Jm 2 18]
abbrev oXv_7:OLq:=[Jm 19 3,Jq 20 (.iaA 5 1 (.t 5) (Jk 1)),Jl 21 20,Jq 22 (.bin .add (.t 19) (.t 21)),Jm 3 22]
abbrev oXv_8:OLq:=[Jq 23 (.bin .add (.t 12) (Jk 1)),Jm 12 23]
def bXv_9:IC:=(.seq (.ops oXv_4) (.seq (.cond (.t 13) .skip (.exit 0)) (.seq (.block 1 (.seq (.ops oXv_5) (.seq (.ops oXv_6) (.ops oXv_7)))) (.ops oXv_8))))
abbrev oXv_10:OLq:=[Jm 24 2,Jm 25 3,Jm 2 24,Jm 3 25]
def cXv:IC:=(.seq (.ops oXv_0) (.seq (.seq (.ops oXv_1) (.cond (.t 7) (.seq (.ops oXv_2) .ret) .skip)) (.seq (.seq (.ops oXv_3) (.block 0 (.loop bXv_9))) (.seq (.ops oXv_10) .ret))))
def iXv:IFn:=⟨26,cXv,[(2,none),(3,none)]⟩
-- F 28 (*rota/dual.Pair).Blocked: bads 0, calls [37, 42, 42]
abbrev oXt_0:OLq:=[Jq 2 (.mv (.k (.c (.int .u64 0))))]
abbrev oXt_1:OLq:=[Jm 3 0,Jq 4 (.call (.k (.c (.fn fXx [] []))) [.t 3])]
abbrev oXt_2:OLq:=[Jq 2 (.mv (.k (.c (.int .u64 0))))]
abbrev oXt_3:OLq:=[Jm 11 0,Jn 12 11,Jf 13 12 12,Jq 14 (.iaA 2 1 (.t 13) (Jk 1)),Jl 15 14,Jm 5 0,Jn 6 5,Jf 7 12 6,Jq 8 (.iaA 2 1 (.t 7) (Jk 0)),Jl 9 8,Jq 10 (.call (.k (.c (.fn fX4 [] []))) [.t 9]),Kq (.same (some none) (.t 14) (.t 15)),Jq 16 (.call (.k (.c (.fn fX4 [] []))) [.t 15]),Jq 17 (.bin .add (.t 10) (.t 16)),Jm 2 17]
def cXt:IC:=(.seq (.ops oXt_0) (.seq (.seq (.ops oXt_1) (.cond (.t 4) (.seq (.ops oXt_2) .ret) .skip)) (.seq (.ops oXt_3) .ret)))
def iXt:IFn:=⟨18,cXt,[(2,none)]⟩
-- F 29 rota/rotalaw21.sent: bads 0, calls [16]
abbrev oX1a_0:OLq:=[Jq 2 (.mv (.k (.c (.sl none 0 0 false))))]
abbrev oX1a_1:OLq:=[Jq 6 (.build [(.int .i64 0),(.int .u16 0)] [(1,1,(.k (.c (.int .u16 15))))]),Jq 7 (.build (List.replicate 2 (.int .i64 0)++[(.int .u16 0)]++List.replicate 64 (.int .u8 0)) [(0,1,(Jk 2)),(1,2,(.t 6))]),Jq 3 (.new 29 (.agg (List.replicate 2 (.int .i64 0)++[(.int .u16 0)]++List.replicate 64 (.int .u8 0)))),Kq (.st 67 (.t 3) (.t 7))]
abbrev oX1a_2:OLq:=[Jm 8 0,Jf 9 3 3,Jq 10 (.iaA 64 1 (.t 9) (Jk 0)),Kq (.st 1 (.t 10) (.t 8))]
abbrev oX1a_3:OLq:=[Jq 12 (.ld (some 67) (.t 3)),Jq 13 (.call (.k (.c (.fn fX10 [] []))) [.t 12]),Jm 11 13,Jx 14 11 0,Jx 15 11 1,Jm 4 14,Jm 5 15]
abbrev oX1a_4:OLq:=[Jm 16 4,Jm 2 16]
def cX1a:IC:=(.seq (.ops oX1a_0) (.seq (.ops oX1a_1) (.seq (.ops oX1a_2) (.seq (.ops oX1a_3) (.seq (.ops oX1a_4) .ret)))))
def iX1a:IFn:=⟨17,cX1a,[(2,none)]⟩
-- F 30 rota/rotalaw21.took: bads 0, calls [9]
abbrev oX1b_0:OLq:=[Jq 10 (.mv (.k (.c (.bool false))))]
abbrev oX1b_1:OLq:=[Jm 14 0,Jq 15 (.build [(.int .i64 0),(.int .u16 0)] [(0,1,(.t 14)),(1,1,(.k (.c (.int .u16 15))))]),Jm 16 1,Jm 17 2,Jq 18 (.call (.k (.c (.fn fXq [] []))) [(Jk 2),.t 15,.t 16,.t 17]),Jm 13 18,Jx 19 13 0,Jx 20 13 1,Jq 11 (.new 29 (.agg (List.replicate 2 (.int .i64 0)++[(.int .u16 0)]++List.replicate 64 (.int .u8 0)))),Kq (.st 67 (.t 11) (.t 19)),Jm 12 20]
abbrev oX1b_2:OLq:=[Jm 21 12,Jm 22 3,Jq 23 (.bin .eql (.t 21) (.t 22)),Jm 24 23,⟨(some 25),.fa 3 (.t 11),some (24,true)⟩,⟨(some 26),.iaA 64 1 (.t 25) (Jk 0),some (24,true)⟩,⟨(some 27),.ld none (.t 26),some (24,true)⟩,⟨(some 28),.mv (.t 4),some (24,true)⟩,⟨(some 29),.bin .eql (.t 27) (.t 28),some (24,true)⟩,Jq 30 (.pick (.t 24) (.t 29) (.k (.c (.bool false)))),Jm 31 30,⟨(some 32),.mv (.t 3),some (31,true)⟩,⟨(some 33),.bin .eql (.t 32) (Jk 0),some (31,true)⟩,⟨(some 34),.mv (.t 33),some (31,true)⟩,⟨(some 35),.mv (.t 3),some (34,false)⟩,⟨(some 36),.bin .eql (.t 35) (Jk 4),some (34,false)⟩,⟨(some 37),.pick (.t 34) (.k (.c (.bool true))) (.t 36),some (31,true)⟩,⟨(some 38),.ld (some 67) (.t 11),some (31,true)⟩,⟨(some 39),.build (List.replicate 2 (.int .i64 0)++[(.int .u16 0)]++List.replicate 64 (.int .u8 0)) [],some (31,true)⟩,⟨(some 40),.eqagg [.int,.int,.int,.int,.int,.int,.int,.int,.int,.int,.int,.int,.int,.int,.int,.int,.int,.int,.int,.int,.int,.int,.int,.int,.int,.int,.int,.int,.int,.int,.int,.int,.int,.int,.int,.int,.int,.int,.int,.int,.int,.int,.int,.int,.int,.int,.int,.int,.int,.int,.int,.int,.int,.int,.int,.int,.int,.int,.int,.int,.int,.int,.int,.int,.int,.int,.int] false (.t 38) (.t 39),some (31,true)⟩,⟨(some 41),.eq .bool false (.t 37) (.t 40),some (31,true)⟩,Jq 42 (.pick (.t 31) (.t 41) (.k (.c (.bool false)))),Jm 10 42]
def cX1b:IC:=(.seq (.ops oX1b_0) (.seq (.ops oX1b_1) (.seq (.ops oX1b_2) .ret)))
def iX1b:IFn:=⟨43,cX1b,[(10,none)]⟩
-- F 31 rota/dual.Choose$1: bads 0, calls [32]
abbrev oXr_0:OLq:=[Jq 6 (.mv (.k (.c (.bool false))))]
abbrev oXr_1:OLq:=[Jm 10 0,Jq 11 (.iaA 2 1 (.t 1) (.t 10)),Jl 12 11,Jl 13 2,Jq 14 (.ld (some 2) (.t 3)),Jq 15 (.call (.k (.c (.fn fXy [] []))) [.t 12,.t 13,.t 14]),Jm 9 15,Jx 16 9 0,Jx 17 9 1,Jq 7 (.new 29 (.agg (List.replicate 2 (.int .i64 0)++[(.int .u16 0)]++List.replicate 64 (.int .u8 0)))),Kq (.st 67 (.t 7) (.t 16)),Jm 8 17]
abbrev oXr_2:OLq:=[Jm 18 0,Jq 19 (.ld (some 67) (.t 7)),Jq 20 (.iaA 2 67 (.t 4) (.t 18)),Kq (.st 67 (.t 20) (.t 19))]
abbrev oXr_3:OLq:=[Jm 21 0,Jq 22 (.iaA 2 1 (.t 1) (.t 21)),Jl 23 22,Jq 24 (.eq .sl true (.t 23) (.k (.c (.sl none 0 0 false)))),Jm 25 24,⟨(some 26),.mv (.t 8),some (25,true)⟩,⟨(some 27),.bin .eql (.t 26) (Jk 0),some (25,true)⟩,Jq 28 (.pick (.t 25) (.t 27) (.k (.c (.bool false)))),Jm 6 28]
def cXr:IC:=(.seq (.ops oXr_0) (.seq (.ops oXr_1) (.seq (.ops oXr_2) (.seq (.ops oXr_3) .ret))))
def iXr:IFn:=⟨29,cXr,[(6,none)]⟩
-- F 32 rota/frame.Accept: bads 0, calls [43, 35, 36, 45, 44]
abbrev oXy_0:OLq:=[Jq 5 (.box 24 (.t 2)),Jq 6 (.new 29 (.agg (List.replicate 2 (.int .i64 0)++[(.int .u16 0)]++List.replicate 64 (.int .u8 0)))),Jq 7 (.mv (Jk 0))]
abbrev oXy_1:OLq:=[Jm 11 0,Jq 12 (.call (.k (.c (.fn fX15 [] []))) [.t 11]),Jm 10 12,Jx 13 10 0,Jx 14 10 1,Jq 8 (.new 29 (.agg (List.replicate 2 (.int .i64 0)++[(.int .u16 0)]++List.replicate 64 (.int .u8 0)))),Kq (.st 67 (.t 8) (.t 13)),Jm 9 14]
abbrev oXy_2:OLq:=[Jm 15 9,Jq 16 (.un .not (.t 15))]
abbrev oXy_3:OLq:=[Jq 17 (.build (List.replicate 2 (.int .i64 0)++[(.int .u16 0)]++List.replicate 64 (.int .u8 0)) []),Kq (.st 67 (.t 6) (.t 17)),Jq 7 (.mv (Jk 30))]
abbrev oXy_4:OLq:=[Jm 18 0,Jq 19 (.ld (some 2) (.t 5)),Jq 20 (.call (.k (.c (.fn fX16 [] []))) [.t 19]),Jq 21 (.call (.k (.c (.fn fX1j [] []))) [.t 20]),Jm 22 0,Jq 23 (.slS 1 (.t 22) (some (Jk 6)) (some (Jk 71)) none),Jq 24 (.call (.k (.c (.fn fX1i [] []))) [.t 21,.t 23]),Jq 25 (.call (.k (.c (.fn fX13 [] []))) [.t 18,.t 24]),Jq 26 (.un .not (.t 25))]
abbrev oXy_5:OLq:=[Jq 27 (.build (List.replicate 2 (.int .i64 0)++[(.int .u16 0)]++List.replicate 64 (.int .u8 0)) []),Kq (.st 67 (.t 6) (.t 27)),Jq 7 (.mv (Jk 31))]
abbrev oXy_6:OLq:=[Jf 28 0 8,Jl 29 28,Jm 30 1,Jq 31 (.bin .neq (.t 29) (.t 30)),Jm 32 31,⟨(some 33),.fa 1 (.t 8),some (32,false)⟩,⟨(some 34),.ld (some 2) (.t 33),some (32,false)⟩,⟨(some 35),.ld (some 2) (.t 5),some (32,false)⟩,⟨(some 36),.eqagg [.int,.int] true (.t 34) (.t 35),some (32,false)⟩,Jq 37 (.pick (.t 32) (.k (.c (.bool true))) (.t 36))]
abbrev oXy_7:OLq:=[Jq 38 (.build (List.replicate 2 (.int .i64 0)++[(.int .u16 0)]++List.replicate 64 (.int .u8 0)) []),Kq (.st 67 (.t 6) (.t 38)),Jq 7 (.mv (Jk 30))]
abbrev oXy_8:OLq:=[Jq 39 (.ld (some 67) (.t 8)),Kq (.st 67 (.t 6) (.t 39)),Jq 7 (.mv (Jk 0))]
def cXy:IC:=(.seq (.ops oXy_0) (.seq (.ops oXy_1) (.seq (.seq (.ops oXy_2) (.cond (.t 16) (.seq (.ops oXy_3) .ret) .skip)) (.seq (.seq (.ops oXy_4) (.cond (.t 26) (.seq (.ops oXy_5) .ret) .skip)) (.seq (.seq (.ops oXy_6) (.cond (.t 37) (.seq (.ops oXy_7) .ret) .skip)) (.seq (.ops oXy_8) .ret))))))
def iXy:IFn:=⟨40,cXy,[(6,(some (some 67))),(7,none)]⟩
-- F 34 rota/bus.New: bads 0, calls [49, 50]
abbrev oXa_0:OLq:=[Jq 1 (.box 39 (.t 0)),Jq 2 (.mv (.k (.c (.ptr none)))),Jq 3 (.mv (Jk 0))]
abbrev oXa_1:OLq:=[Jq 5 (.ld (some 12) (.t 1)),Jq 6 (.call (.k (.c (.fn fXb [] []))) [.t 5]),Jm 4 6]
abbrev oXa_2:OLq:=[Jm 7 4,Jq 8 (.bin .neq (.t 7) (Jk 0))]
abbrev oXa_3:OLq:=[Jm 9 4,Jq 2 (.mv (.k (.c (.ptr none)))),Jm 3 9]
abbrev oXa_4:OLq:=[Jf 10 1 1,Jl 11 10,Jq 12 (.call (.k (.c (.fn fX1e [] []))) [.t 11]),Jq 13 (.build [(.sl none 0 0 false),(.int .u64 0),(.int .u64 0)] [(0,1,(.t 12))]),Jq 14 (.box 130 (.t 13)),Jm 2 14,Jq 3 (.mv (Jk 0))]
def cXa:IC:=(.seq (.ops oXa_0) (.seq (.seq (.ops oXa_1) (.seq (.ops oXa_2) (.cond (.t 8) (.seq (.ops oXa_3) .ret) .skip))) (.seq (.ops oXa_4) .ret)))
def iXa:IFn:=⟨15,cXa,[(2,none),(3,none)]⟩
-- F 35 rota/frame.state: bads 0, calls []
abbrev oX16_0:OLq:=[Jq 1 (.box 24 (.t 0)),Jq 2 (.mv (.k (.c (.sl none 0 0 false))))]
abbrev oX16_1:OLq:=[Jf 4 0 1,Jl 5 4,Jq 6 (.cv .u32 (.t 5)),Jm 3 6]
abbrev oX16_2:OLq:=[Jm 7 3,Jq 8 (.bin .shr (.t 7) (.k (.c (.int .u64 24)))),Jq 9 (.cv .u8 (.t 8)),Jm 10 3,Jq 11 (.bin .shr (.t 10) (.k (.c (.int .u64 16)))),Jq 12 (.cv .u8 (.t 11)),Jm 13 3,Jq 14 (.bin .shr (.t 13) (.k (.c (.int .u64 8)))),Jq 15 (.cv .u8 (.t 14)),Jm 16 3,Jq 17 (.cv .u8 (.t 16)),Jf 18 1 1,Jl 19 18,Jq 20 (.bin .shr (.t 19) (.k (.c (.int .u64 8)))),Jq 21 (.cv .u8 (.t 20)),Jf 22 1 1,Jl 23 22,Jq 24 (.cv .u8 (.t 23)),Jq 25 (.bsl 5 6 (List.replicate 6 (.int .u8 0)) [(0,1,(.t 9)),(1,1,(.t 12)),(2,1,(.t 15)),(3,1,(.t 17)),(4,1,(.t 21)),(5,1,(.t 24))]),Jm 2 25]
def cX16:IC:=(.seq (.ops oX16_0) (.seq (.ops oX16_1) (.seq (.ops oX16_2) .ret)))
def iX16:IFn:=⟨26,cX16,[(2,none)]⟩
-- F 36 rota/sum.Sum: bads 0, calls [45]
abbrev oX1j_0:OLq:=[Jq 2 (.mv (.k (.c (.int .u32 0))))]
abbrev oX1j_1:OLq:=[Jm 3 0,Jq 4 (.call (.k (.c (.fn fX1i [] []))) [(.k (.c (.int .u32 0))),.t 3]),Jm 2 4]
def cX1j:IC:=(.seq (.ops oX1j_0) (.seq (.ops oX1j_1) .ret))
def iX1j:IFn:=⟨5,cX1j,[(2,none)]⟩
-- F 37 (*rota/dual.Pair).none: bads 0, calls []
abbrev oXx_0:OLq:=[Jq 2 (.mv (.k (.c (.bool false))))]
abbrev oXx_1:OLq:=[Jm 3 0,Jq 4 (.eq .ptr false (.t 3) (.k (.c (.ptr none)))),Jm 5 4,⟨(some 6),.mv (.t 0),some (5,false)⟩,⟨(some 7),.nilck (.t 6),some (5,false)⟩,⟨(some 8),.fa 12 (.t 7),some (5,false)⟩,⟨(some 9),.iaA 2 1 (.t 8) (Jk 0),some (5,false)⟩,⟨(some 10),.ld none (.t 9),some (5,false)⟩,⟨(some 11),.eq .ptr false (.t 10) (.k (.c (.ptr none))),some (5,false)⟩,Jq 12 (.pick (.t 5) (.k (.c (.bool true))) (.t 11)),Jm 2 12]
def cXx:IC:=(.seq (.ops oXx_0) (.seq (.ops oXx_1) .ret))
def iXx:IFn:=⟨13,cXx,[(2,none)]⟩
-- F 38 (*rota/bus.Bus).Carry: bads 0, calls [51, 52, 53, 39]
abbrev oX5_0:OLq:=[Jq 8 (.mv (.k (.c (.sl none 0 0 false)))),Jq 9 (.mv (Jk 0))]
abbrev oX5_1:OLq:=[Jm 17 0,Jq 18 (.eq .ptr false (.t 17) (.k (.c (.ptr none)))),Jm 16 18]
abbrev oX5_2:OLq:=[Jq 8 (.mv (.k (.c (.sl none 0 0 false)))),Jq 9 (.mv (Jk 1))]
abbrev oX5_3:OLq:=[Jm 20 1,Jq 21 (.bin .lss (.t 20) (Jk 0)),Jm 19 21]
abbrev oX5_4:OLq:=[Jq 8 (.mv (.k (.c (.sl none 0 0 false)))),Jq 9 (.mv (Jk 2))]
abbrev oX5_5:OLq:=[Jm 22 0,Jn 23 22,Jf 24 0 23,Jl 25 24,Je 26 25,Jq 27 (.mksl 25 1 24 [(.sl none 0 0 false)] (.t 26) (.t 26)),Jm 10 27]
abbrev oX5_6:OLq:=[Jm 29 0,Jm 30 1,Jm 31 2,Jq 32 (.call (.k (.c (.fn fX8 [] []))) [.t 29,.t 30,.t 31]),Jm 28 32,Jx 33 28 0,Jx 34 28 1,Jq 11 (.new 25 (.c (.sl none 0 0 false))),Kq (.st 1 (.t 11) (.t 33)),Jm 12 34]
abbrev oX5_7:OLq:=[Jm 35 12,Jq 36 (.un .not (.t 35))]
abbrev oX5_8:OLq:=[Jm 37 10,Jm 8 37,Jq 9 (.mv (Jk 0))]
abbrev oX5_9:OLq:=[Jq 38 (.mkfn fX6 [] [.t 11]),Jm 13 38]
abbrev oX5_10:OLq:=[Jm 39 10,Je 40 39,Jq 41 (.mv (Jk 0))]
abbrev oX5_11:OLq:=[Jq 42 (.bin .lss (.t 41) (.t 40))]
abbrev oX5_12:OLq:=[Jm 43 41,Jm 14 43]
abbrev oX5_13:OLq:=[Jq 44 (.build [(.int .i64 0),(.int .i64 0),(.int .u32 0)] []),Jq 15 (.new 65 (.agg [(.int .i64 0),(.int .i64 0),(.int .u32 0)])),Kq (.st 3 (.t 15) (.t 44))]
abbrev oX5_14:OLq:=[Jm 45 14,Jm 46 3,Je 47 46,Jq 48 (.bin .lss (.t 45) (.t 47)),Jm 49 48,⟨(some 50),.mv (.t 14),some (49,true)⟩,⟨(some 51),.mv (.t 0),some (49,true)⟩,⟨(some 52),.mv (.t 1),some (49,true)⟩,⟨(some 53),.call (.k (.c (.fn fX7 [] []))) [.t 51,.t 52],some (49,true)⟩,⟨(some 54),.bin .neq (.t 50) (.t 53),some (49,true)⟩,Jq 55 (.pick (.t 49) (.t 54) (.k (.c (.bool false))))]
abbrev oX5_15:OLq:=[Jm 56 3,Jm 57 14,Ji 58 3 56 57,Jq 59 (.ld (some 3) (.t 58)),Kq (.st 3 (.t 15) (.t 59))]
abbrev oX5_16:OLq:=[Jf 60 0 15,Jl 61 60]
abbrev oX5_17:OLq:=[Jq 68 (.bin .eql (.t 61) (Jk 1)),Jm 67 68]
abbrev oX5_18:OLq:=[Jq 70 (.bin .eql (.t 61) (Jk 2)),Jm 69 70]
abbrev oX5_19:OLq:=[Jm 71 10,Jm 72 14,Jq 73 (.bsl 5 0 [] []),Jl 74 11,Jf 75 1 15,Jl 76 75,Jf 77 2 15,Jl 78 77,Jq 79 (.call (.k (.c (.fn fXz [] []))) [.t 74,.t 76,.t 78]),Jq 80 (.app 5 1 1 (.t 73) (.t 79)),Ji 81 1 71 72,Kq (.st 1 (.t 81) (.t 80))]
abbrev oX5_20:OLq:=[Jm 62 10,Jm 63 14,Jm 64 13,Jq 65 (.call (.t 64) []),Ji 66 1 62 63,Kq (.st 1 (.t 66) (.t 65))]
abbrev oX5_21:OLq:=[Jq 82 (.bin .add (.t 41) (Jk 1)),Jm 41 82]
def bX5_22:IC:=(.seq (.ops oX5_11) (.seq (.cond (.t 42) .skip (.exit 1)) (.seq (.block 2 (.seq (.ops oX5_12) (.seq (.ops oX5_13) (.seq (.seq (.ops oX5_14) (.cond (.t 55) (.ops oX5_15) .skip)) (.seq (.ops oX5_16) (.block 3 (.seq (.ops oX5_17) (.cond (.t 67) .skip (.seq (.ops oX5_18) (.cond (.t 69) (.ops oX5_19) (.ops oX5_20))))))))))) (.ops oX5_21))))
abbrev oX5_23:OLq:=[Jm 83 10,Jm 8 83,Jq 9 (.mv (Jk 0))]
def cX5:IC:=(.seq (.ops oX5_0) (.seq (.block 0 (.seq (.ops oX5_1) (.cond (.t 16) (.seq (.ops oX5_2) .ret) (.seq (.ops oX5_3) (.cond (.t 19) (.seq (.ops oX5_4) .ret) .skip))))) (.seq (.ops oX5_5) (.seq (.ops oX5_6) (.seq (.seq (.ops oX5_7) (.cond (.t 36) (.seq (.ops oX5_8) .ret) .skip)) (.seq (.ops oX5_9) (.seq (.seq (.ops oX5_10) (.block 1 (.loop bX5_22))) (.seq (.ops oX5_23) .ret))))))))
def iX5:IFn:=⟨84,cX5,[(8,none),(9,none)]⟩
-- F 39 rota/frame.Corrupt: bads 0, calls [54, 55]
abbrev oXz_0:OLq:=[Jq 3 (.box 25 (.t 0)),Jq 4 (.box 3 (.t 1)),Jq 6 (.mv (.k (.c (.sl none 0 0 false))))]
abbrev oXz_1:OLq:=[Jl 10 3,Jq 11 (.call (.k (.c (.fn fX1d [] []))) [.t 10]),Jq 7 (.new 25 (.c (.sl none 0 0 false))),Kq (.st 1 (.t 7) (.t 11))]
abbrev oXz_2:OLq:=[Jl 12 4,Jq 13 (.bin .lss (.t 12) (Jk (-32))),Jm 14 13,⟨(some 15),.ld none (.t 4),some (14,false)⟩,⟨(some 16),.ld none (.t 3),some (14,false)⟩,⟨(some 17),.len false (.t 16),some (14,false)⟩,⟨(some 18),.bin .mul (Jk 8) (.t 17),some (14,false)⟩,⟨(some 19),.bin .gtr (.t 15) (.t 18),some (14,false)⟩,Jq 20 (.pick (.t 14) (.k (.c (.bool true))) (.t 19))]
abbrev oXz_3:OLq:=[Jl 21 7,Jm 6 21]
abbrev oXz_4:OLq:=[Jm 22 2,Jq 23 (.call (.k (.c (.fn fX11 [] []))) [.t 22])]
abbrev oXz_5:OLq:=[Jm 8 24]
abbrev oXz_6:OLq:=[Jl 25 4,Jm 26 8,Jq 27 (.bin .add (.t 25) (.t 26)),Jm 9 27]
abbrev oXz_7:OLq:=[Jm 28 9,Jq 29 (.bin .geq (.t 28) (Jk 0)),Jm 30 29,⟨(some 31),.mv (.t 9),some (30,true)⟩,⟨(some 32),.ld none (.t 3),some (30,true)⟩,⟨(some 33),.len false (.t 32),some (30,true)⟩,⟨(some 34),.bin .mul (Jk 8) (.t 33),some (30,true)⟩,⟨(some 35),.bin .lss (.t 31) (.t 34),some (30,true)⟩,Jq 36 (.pick (.t 30) (.t 35) (.k (.c (.bool false))))]
abbrev oXz_8:OLq:=[Jl 37 7,Jm 38 9,Jq 39 (.bin .quo (.t 38) (Jk 8)),Ji 40 1 37 39,Jl 41 40,Jm 42 9,Jq 43 (.bin .rem (.t 42) (Jk 8)),Jq 44 (.bin .shl (.k (.c (.int .u8 1))) (.t 43)),Jq 45 (.bin .xor (.t 41) (.t 44)),Ji 46 1 37 39,Kq (.st 1 (.t 46) (.t 45))]
def aXz_9:IC:=(.ops oXz_5)
def bXz_10:IC:=(.block 1 (.seq (.ops oXz_6) (.seq (.ops oXz_7) (.cond (.t 36) (.ops oXz_8) .skip))))
abbrev oXz_11:OLq:=[Jl 47 7,Jm 6 47]
def cXz:IC:=(.seq (.ops oXz_0) (.seq (.ops oXz_1) (.seq (.seq (.ops oXz_2) (.cond (.t 20) (.seq (.ops oXz_3) .ret) .skip)) (.seq (.seq (.ops oXz_4) (.block 0 (.rangeF (.t 23) [24] aXz_9 bXz_10))) (.seq (.ops oXz_11) .ret)))))
def iXz:IFn:=⟨48,cXz,[(6,none)]⟩
-- F 42 (*rota/bus.Bus).Blocked: bads 0, calls [60]
abbrev oX4_0:OLq:=[Jq 2 (.mv (.k (.c (.int .u64 0))))]
abbrev oX4_1:OLq:=[Jm 3 0,Jq 4 (.eq .ptr false (.t 3) (.k (.c (.ptr none))))]
abbrev oX4_2:OLq:=[Jq 2 (.mv (.k (.c (.int .u64 0))))]
abbrev oX4_3:OLq:=[Jm 5 0,Jn 6 5,Jf 7 1 6,Jq 8 (.call (.k (.c (.fn fX3 [] []))) [.t 7]),Jm 2 8]
def cX4:IC:=(.seq (.ops oX4_0) (.seq (.seq (.ops oX4_1) (.cond (.t 4) (.seq (.ops oX4_2) .ret) .skip)) (.seq (.ops oX4_3) .ret)))
def iX4:IFn:=⟨9,cX4,[(2,none)]⟩
-- F 43 rota/frame.read: bads 0, calls [61, 61]
abbrev oX15_0:OLq:=[Jq 2 (.new 29 (.agg (List.replicate 2 (.int .i64 0)++[(.int .u16 0)]++List.replicate 64 (.int .u8 0)))),Jq 3 (.mv (.k (.c (.bool false))))]
abbrev oX15_1:OLq:=[Jm 5 0,Je 6 5,Jq 7 (.bin .neq (.t 6) (Jk 75)),Jm 8 7,⟨(some 9),.mv (.t 0),some (8,false)⟩,⟨(some 10),.iaS 1 (.t 9) (Jk 6),some (8,false)⟩,⟨(some 11),.ld none (.t 10),some (8,false)⟩,⟨(some 12),.bin .geq (.t 11) (.k (.c (.int .u8 16))),some (8,false)⟩,Jq 13 (.pick (.t 8) (.k (.c (.bool true))) (.t 12)),Jm 14 13,⟨(some 15),.mv (.t 0),some (14,false)⟩,⟨(some 16),.iaS 1 (.t 15) (Jk 0),some (14,false)⟩,⟨(some 17),.ld none (.t 16),some (14,false)⟩,⟨(some 18),.bin .gtr (.t 17) (.k (.c (.int .u8 127))),some (14,false)⟩,Jq 19 (.pick (.t 14) (.k (.c (.bool true))) (.t 18))]
abbrev oX15_2:OLq:=[Jq 20 (.build (List.replicate 2 (.int .i64 0)++[(.int .u16 0)]++List.replicate 64 (.int .u8 0)) []),Kq (.st 67 (.t 2) (.t 20)),Jq 3 (.mv (.k (.c (.bool false))))]
abbrev oX15_3:OLq:=[Jm 28 0,Jq 29 (.slS 1 (.t 28) (some (Jk 4)) (some (Jk 6)) none),Jm 25 0,Jq 26 (.slS 1 (.t 25) none (some (Jk 4)) none),Jm 21 0,Jq 22 (.iaS 1 (.t 21) (Jk 6)),Jl 23 22,Jq 24 (.cv .i64 (.t 23)),Jq 27 (.call (.k (.c (.fn fX14 [] []))) [.t 26]),Kq (.same (some none) (.t 22) (.t 23)),Jq 30 (.call (.k (.c (.fn fX14 [] []))) [.t 29]),Kq (.same (some none) (.t 22) (.t 23)),Jq 31 (.cv .u16 (.t 30)),Jq 32 (.build [(.int .i64 0),(.int .u16 0)] [(0,1,(.t 27)),(1,1,(.t 31))]),Jq 33 (.build (List.replicate 2 (.int .i64 0)++[(.int .u16 0)]++List.replicate 64 (.int .u8 0)) [(0,1,(.t 24)),(1,2,(.t 32))]),Jq 4 (.new 29 (.agg (List.replicate 2 (.int .i64 0)++[(.int .u16 0)]++List.replicate 64 (.int .u8 0)))),Kq (.st 67 (.t 4) (.t 33))]
abbrev oX15_4:OLq:=[Jf 34 3 4,Jq 35 (.slA 64 1 (.t 34) none none none),Jm 36 0,Jq 37 (.slS 1 (.t 36) (some (Jk 7)) (some (Jk 71)) none),Jq 38 (.cpy 1 (.t 35) (.t 37))]
abbrev oX15_5:OLq:=[Jq 39 (.ld (some 67) (.t 4)),Kq (.st 67 (.t 2) (.t 39)),Jq 3 (.mv (.k (.c (.bool true))))]
def cX15:IC:=(.seq (.ops oX15_0) (.seq (.seq (.ops oX15_1) (.cond (.t 19) (.seq (.ops oX15_2) .ret) .skip)) (.seq (.ops oX15_3) (.seq (.ops oX15_4) (.seq (.ops oX15_5) .ret)))))
def iX15:IFn:=⟨40,cX15,[(2,(some (some 67))),(3,none)]⟩
-- F 44 rota/frame.checked: bads 0, calls []
abbrev oX13_0:OLq:=[Jq 4 (.mv (.k (.c (.bool false))))]
abbrev oX13_1:OLq:=[Jm 5 0,Jq 6 (.iaS 1 (.t 5) (Jk 71)),Jl 7 6,Jm 8 1,Jq 9 (.cv .u8 (.t 8)),Jq 10 (.bin .eql (.t 7) (.t 9)),Jm 11 10,⟨(some 12),.mv (.t 0),some (11,true)⟩,⟨(some 13),.iaS 1 (.t 12) (Jk 72),some (11,true)⟩,⟨(some 14),.ld none (.t 13),some (11,true)⟩,⟨(some 15),.mv (.t 1),some (11,true)⟩,⟨(some 16),.bin .shr (.t 15) (.k (.c (.int .u64 8))),some (11,true)⟩,⟨(some 17),.cv .u8 (.t 16),some (11,true)⟩,⟨(some 18),.bin .eql (.t 14) (.t 17),some (11,true)⟩,Jq 19 (.pick (.t 11) (.t 18) (.k (.c (.bool false)))),Jm 20 19,⟨(some 21),.mv (.t 0),some (20,true)⟩,⟨(some 22),.iaS 1 (.t 21) (Jk 73),some (20,true)⟩,⟨(some 23),.ld none (.t 22),some (20,true)⟩,⟨(some 24),.mv (.t 1),some (20,true)⟩,⟨(some 25),.bin .shr (.t 24) (.k (.c (.int .u64 16))),some (20,true)⟩,⟨(some 26),.cv .u8 (.t 25),some (20,true)⟩,⟨(some 27),.bin .eql (.t 23) (.t 26),some (20,true)⟩,Jq 28 (.pick (.t 20) (.t 27) (.k (.c (.bool false)))),Jm 29 28,⟨(some 30),.mv (.t 0),some (29,true)⟩,⟨(some 31),.iaS 1 (.t 30) (Jk 74),some (29,true)⟩,⟨(some 32),.ld none (.t 31),some (29,true)⟩,⟨(some 33),.mv (.t 1),some (29,true)⟩,⟨(some 34),.bin .shr (.t 33) (.k (.c (.int .u64 24))),some (29,true)⟩,⟨(some 35),.cv .u8 (.t 34),some (29,true)⟩,⟨(some 36),.bin .eql (.t 32) (.t 35),some (29,true)⟩,Jq 37 (.pick (.t 29) (.t 36) (.k (.c (.bool false)))),Jm 4 37]
def cX13:IC:=(.seq (.ops oX13_0) (.seq (.ops oX13_1) .ret))
def iX13:IFn:=⟨38,cX13,[(4,none)]⟩
-- F 45 rota/sum.More: bads 0, calls []
abbrev oX1i_0:OLq:=[Jq 4 (.mv (.k (.c (.int .u32 0))))]
abbrev oX1i_1:OLq:=[Jm 8 0,Jq 9 (.un .xor (.t 8)),Jm 5 9]
abbrev oX1i_2:OLq:=[Jm 10 1,Je 11 10,Jq 12 (.mv (Jk 0))]
abbrev oX1i_3:OLq:=[Jq 13 (.bin .lss (.t 12) (.t 11))]
abbrev oX1i_4:OLq:=[Ji 14 1 10 12,Jl 15 14,Jm 7 15]
abbrev oX1i_5:OLq:=[Jm 16 5,Jm 17 7,Jq 18 (.cv .u32 (.t 17)),Jq 19 (.bin .xor (.t 16) (.t 18)),Jm 5 19]
abbrev oX1i_6:OLq:=[Jm 20 5,Jq 21 (.bin .shr (.t 20) (.k (.c (.int .u64 4)))),Jm 22 5,Jq 23 (.bin .and (.t 22) (.k (.c (.int .u32 15)))),Jq 24 (.iaA 16 1 (.k (.c (.ptr (some (0,0))))) (.t 23)),Jl 25 24,Jq 26 (.bin .xor (.t 21) (.t 25)),Jm 5 26]
abbrev oX1i_7:OLq:=[Jm 27 5,Jq 28 (.bin .shr (.t 27) (.k (.c (.int .u64 4)))),Jm 29 5,Jq 30 (.bin .and (.t 29) (.k (.c (.int .u32 15)))),Jq 31 (.iaA 16 1 (.k (.c (.ptr (some (0,0))))) (.t 30)),Jl 32 31,Jq 33 (.bin .xor (.t 28) (.t 32)),Jm 5 33]
abbrev oX1i_8:OLq:=[Jq 34 (.bin .add (.t 12) (Jk 1)),Jm 12 34]
def bX1i_9:IC:=(.seq (.ops oX1i_3) (.seq (.cond (.t 13) .skip (.exit 0)) (.seq (.block 1 (.seq (.ops oX1i_4) (.seq (.ops oX1i_5) (.seq (.ops oX1i_6) (.ops oX1i_7))))) (.ops oX1i_8))))
abbrev oX1i_10:OLq:=[Jm 35 5,Jq 36 (.un .xor (.t 35)),Jm 4 36]
def cX1i:IC:=(.seq (.ops oX1i_0) (.seq (.ops oX1i_1) (.seq (.seq (.ops oX1i_2) (.block 0 (.loop bX1i_9))) (.seq (.ops oX1i_10) .ret))))
def iX1i:IFn:=⟨37,cX1i,[(4,none)]⟩
-- F 49 rota/config.Check: bads 0, calls [63]
abbrev oXb_0:OLq:=[Jq 1 (.box 39 (.t 0)),Jq 2 (.mv (Jk 0))]
abbrev oXb_1:OLq:=[Jq 3 (.mv (Jk 21))]
abbrev oXb_2:OLq:=[Jm 4 3,Jq 5 (.bin .leq (.t 4) (Jk 26))]
abbrev oXb_3:OLq:=[Jm 8 3,Jq 9 (.ld (some 12) (.t 1)),Jq 10 (.call (.k (.c (.fn fXf [] []))) [.t 8,.t 9]),Jq 11 (.un .not (.t 10))]
abbrev oXb_4:OLq:=[Jm 12 3,Jm 2 12]
abbrev oXb_5:OLq:=[Jm 6 3,Jq 7 (.bin .add (.t 6) (Jk 1)),Jm 3 7]
def bXb_6:IC:=(.seq (.seq (.ops oXb_2) (.cond (.t 5) .skip (.exit 0))) (.seq (.block 1 (.seq (.ops oXb_3) (.cond (.t 11) (.seq (.ops oXb_4) .ret) .skip))) (.ops oXb_5)))
abbrev oXb_7:OLq:=[Jq 2 (.mv (Jk 0))]
def cXb:IC:=(.seq (.ops oXb_0) (.seq (.seq (.ops oXb_1) (.block 0 (.loop bXb_6))) (.seq (.ops oXb_7) .ret)))
def iXb:IFn:=⟨13,cXb,[(2,none)]⟩
-- F 50 slices.Clone[[]int,int]: bads 0, calls []
abbrev oX1e_0:OLq:=[Jq 2 (.mv (.k (.c (.sl none 0 0 false))))]
abbrev oX1e_1:OLq:=[Jm 3 0,Jq 4 (.eq .sl false (.t 3) (.k (.c (.sl none 0 0 false))))]
abbrev oX1e_2:OLq:=[Jq 2 (.mv (.k (.c (.sl none 0 0 false))))]
abbrev oX1e_3:OLq:=[Jq 5 (.bsl 3 0 [] []),Jm 6 0,Jq 7 (.app 3 1 8 (.t 5) (.t 6)),Jm 2 7]
def cX1e:IC:=(.seq (.ops oX1e_0) (.seq (.seq (.ops oX1e_1) (.cond (.t 4) (.seq (.ops oX1e_2) .ret) .skip)) (.seq (.ops oX1e_3) .ret)))
def iX1e:IFn:=⟨8,cX1e,[(2,none)]⟩
-- F 51 (*rota/bus.Bus).pass: bads 0, calls [53, 65, 64, 66, 66, 66]
abbrev oX8_0:OLq:=[Jq 6 (.mv (.k (.c (.sl none 0 0 false)))),Jq 7 (.mv (.k (.c (.bool false))))]
abbrev oX8_1:OLq:=[Jm 10 0,Jq 11 (.eq .ptr false (.t 10) (.k (.c (.ptr none))))]
abbrev oX8_2:OLq:=[Jq 6 (.mv (.k (.c (.sl none 0 0 false)))),Jq 7 (.mv (.k (.c (.bool false))))]
abbrev oX8_3:OLq:=[Jm 12 0,Jm 13 1,Jq 14 (.call (.k (.c (.fn fX7 [] []))) [.t 12,.t 13]),Jq 8 (.new 3 (.c (.int .i64 0))),Kq (.st 1 (.t 8) (.t 14))]
abbrev oX8_4:OLq:=[Jm 15 2,Jq 16 (.mkfn fX9 [] [.t 8]),Jq 17 (.call (.k (.c (.fn fX1g [] []))) [.t 15,.t 16]),Jm 9 17]
abbrev oX8_5:OLq:=[Jm 18 9,Jq 19 (.bin .lss (.t 18) (Jk 0))]
abbrev oX8_6:OLq:=[Jm 20 0,Jn 21 20,Jf 22 1 21,Jm 23 2,Je 24 23,Jq 25 (.cv .u64 (.t 24)),Jq 26 (.call (.k (.c (.fn fX2 [] []))) [.t 22,.t 25])]
abbrev oX8_7:OLq:=[Jq 6 (.mv (.k (.c (.sl none 0 0 false)))),Jq 7 (.mv (.k (.c (.bool false))))]
abbrev oX8_8:OLq:=[Jm 27 0,Jn 28 27,Jf 29 1 28,Jm 30 2,Je 31 30,Jq 32 (.bin .sub (.t 31) (Jk 1)),Jq 33 (.cv .u64 (.t 32)),Jq 34 (.call (.k (.c (.fn fX2 [] []))) [.t 29,.t 33])]
abbrev oX8_9:OLq:=[Jm 35 0,Jn 36 35,Jf 37 2 36,Jq 38 (.call (.k (.c (.fn fX2 [] []))) [.t 37,(.k (.c (.int .u64 1)))])]
abbrev oX8_10:OLq:=[Jm 39 2,Jm 40 9,Ji 41 2 39 40,Jf 42 1 41,Jl 43 42,Jm 6 43,Jq 7 (.mv (.k (.c (.bool true))))]
def cX8:IC:=(.seq (.ops oX8_0) (.seq (.seq (.ops oX8_1) (.cond (.t 11) (.seq (.ops oX8_2) .ret) .skip)) (.seq (.ops oX8_3) (.seq (.ops oX8_4) (.seq (.seq (.ops oX8_5) (.cond (.t 19) (.seq (.ops oX8_6) (.seq (.ops oX8_7) .ret)) .skip)) (.seq (.ops oX8_8) (.seq (.ops oX8_9) (.seq (.ops oX8_10) .ret))))))))
def iX8:IFn:=⟨44,cX8,[(6,none),(7,none)]⟩
-- F 52 (*rota/bus.Bus).Carry$1: bads 0, calls []
abbrev oX6_0:OLq:=[Jq 1 (.mv (.k (.c (.sl none 0 0 false))))]
abbrev oX6_1:OLq:=[Jq 2 (.bsl 5 0 [] []),Jl 3 0,Jq 4 (.app 5 1 1 (.t 2) (.t 3)),Jm 1 4]
def cX6:IC:=(.seq (.ops oX6_0) (.seq (.ops oX6_1) .ret))
def iX6:IFn:=⟨5,cX6,[(1,none)]⟩
-- F 53 (*rota/bus.Bus).owner: bads 0, calls []
abbrev oX7_0:OLq:=[Jq 4 (.mv (Jk 0))]
abbrev oX7_1:OLq:=[Jm 5 0,Jq 6 (.eq .ptr false (.t 5) (.k (.c (.ptr none)))),Jm 7 6,⟨(some 8),.mv (.t 1),some (7,false)⟩,⟨(some 9),.bin .lss (.t 8) (Jk 0),some (7,false)⟩,Jq 10 (.pick (.t 7) (.k (.c (.bool true))) (.t 9)),Jm 11 10,⟨(some 12),.mv (.t 0),some (11,false)⟩,⟨(some 13),.nilck (.t 12),some (11,false)⟩,⟨(some 14),.fa 0 (.t 13),some (11,false)⟩,⟨(some 15),.ld none (.t 14),some (11,false)⟩,⟨(some 16),.len false (.t 15),some (11,false)⟩,⟨(some 17),.bin .eql (.t 16) (Jk 0),some (11,false)⟩,Jq 18 (.pick (.t 11) (.k (.c (.bool true))) (.t 17))]
abbrev oX7_2:OLq:=[Jq 4 (.mv (Jk (-1)))]
abbrev oX7_3:OLq:=[Jm 19 0,Jn 20 19,Jf 21 0 20,Jl 22 21,Jm 23 1,Jm 24 0,Jn 25 24,Jf 26 0 25,Jl 27 26,Je 28 27,Jq 29 (.bin .rem (.t 23) (.t 28)),Ji 30 1 22 29,Jl 31 30,Jm 4 31]
def cX7:IC:=(.seq (.ops oX7_0) (.seq (.seq (.ops oX7_1) (.cond (.t 18) (.seq (.ops oX7_2) .ret) .skip)) (.seq (.ops oX7_3) .ret)))
def iX7:IFn:=⟨32,cX7,[(4,none)]⟩
-- F 54 slices.Clone[[]byte,byte]: bads 0, calls []
abbrev oX1d_0:OLq:=[Jq 2 (.mv (.k (.c (.sl none 0 0 false))))]
abbrev oX1d_1:OLq:=[Jm 3 0,Jq 4 (.eq .sl false (.t 3) (.k (.c (.sl none 0 0 false))))]
abbrev oX1d_2:OLq:=[Jq 2 (.mv (.k (.c (.sl none 0 0 false))))]
abbrev oX1d_3:OLq:=[Jq 5 (.bsl 5 0 [] []),Jm 6 0,Jq 7 (.app 5 1 1 (.t 5) (.t 6)),Jm 2 7]
def cX1d:IC:=(.seq (.ops oX1d_0) (.seq (.seq (.ops oX1d_1) (.cond (.t 4) (.seq (.ops oX1d_2) .ret) .skip)) (.seq (.ops oX1d_3) .ret)))
def iX1d:IFn:=⟨8,cX1d,[(2,none)]⟩
-- F 55 rota/frame.bits: bads 0, calls [67]
abbrev oX11_0:OLq:=[Jq 1 (.box 63 (.t 0)),Jq 2 (.mv (.k (.c .nilFn)))]
abbrev oX11_1:OLq:=[Jq 3 (.mkfn fX12 [] [.t 1]),Jm 2 3]
def cX11:IC:=(.seq (.ops oX11_0) (.seq (.ops oX11_1) .ret))
def iX11:IFn:=⟨4,cX11,[(2,none)]⟩
-- F 60 (*sync/atomic.Uint64).Load: bads 0, calls [75]
abbrev oX3_0:OLq:=[Jq 2 (.mv (.k (.c (.int .u64 0))))]
abbrev oX3_1:OLq:=[Jm 3 0,Jn 4 3,Jf 5 0 4,Jq 6 (.call (.k (.c (.fn fX1 [] []))) [.t 5]),Jm 2 6]
def cX3:IC:=(.seq (.ops oX3_0) (.seq (.ops oX3_1) .ret))
def iX3:IFn:=⟨7,cX3,[(2,none)]⟩
-- F 61 rota/frame.number: bads 0, calls []
abbrev oX14_0:OLq:=[Jq 2 (.mv (Jk 0))]
abbrev oX14_1:OLq:=[Jm 5 0,Je 6 5,Jq 7 (.mv (Jk 0))]
abbrev oX14_2:OLq:=[Jq 8 (.bin .lss (.t 7) (.t 6))]
abbrev oX14_3:OLq:=[Ji 9 1 5 7,Jl 10 9,Jm 4 10]
abbrev oX14_4:OLq:=[Jm 11 2,Jq 12 (.bin .shl (.t 11) (.k (.c (.int .u64 8)))),Jm 13 4,Jq 14 (.cv .i64 (.t 13)),Jq 15 (.bin .or (.t 12) (.t 14)),Jm 2 15]
abbrev oX14_5:OLq:=[Jq 16 (.bin .add (.t 7) (Jk 1)),Jm 7 16]
def bX14_6:IC:=(.seq (.ops oX14_2) (.seq (.cond (.t 8) .skip (.exit 0)) (.seq (.block 1 (.seq (.ops oX14_3) (.ops oX14_4))) (.ops oX14_5))))
abbrev oX14_7:OLq:=[Jm 17 2,Jm 2 17]
def cX14:IC:=(.seq (.ops oX14_0) (.seq (.seq (.ops oX14_1) (.block 0 (.loop bX14_6))) (.seq (.ops oX14_7) .ret)))
def iX14:IFn:=⟨18,cX14,[(2,none)]⟩
-- F 63 rota/config.fine: bads 0, calls [77, 78, 79, 80, 81, 82]
abbrev oXf_0:OLq:=[Jq 3 (.box 39 (.t 1)),Jq 4 (.mv (.k (.c (.bool false))))]
abbrev oXf_1:OLq:=[Jm 5 0]
abbrev oXf_2:OLq:=[Jq 7 (.bin .eql (.t 5) (Jk 21)),Jm 6 7]
abbrev oXf_3:OLq:=[Jq 8 (.ld (some 12) (.t 3)),Jq 9 (.call (.k (.c (.fn fXi [] []))) [.t 8]),Jm 4 9]
abbrev oXf_4:OLq:=[Jq 11 (.bin .eql (.t 5) (Jk 22)),Jm 10 11]
abbrev oXf_5:OLq:=[Jq 12 (.ld (some 12) (.t 3)),Jq 13 (.call (.k (.c (.fn fXe [] []))) [.t 12]),Jm 4 13]
abbrev oXf_6:OLq:=[Jq 15 (.bin .eql (.t 5) (Jk 23)),Jm 14 15]
abbrev oXf_7:OLq:=[Jq 16 (.ld (some 12) (.t 3)),Jq 17 (.call (.k (.c (.fn fXl [] []))) [.t 16]),Jm 4 17]
abbrev oXf_8:OLq:=[Jq 19 (.bin .eql (.t 5) (Jk 24)),Jm 18 19]
abbrev oXf_9:OLq:=[Jq 20 (.ld (some 12) (.t 3)),Jq 21 (.call (.k (.c (.fn fXo [] []))) [.t 20]),Jm 4 21]
abbrev oXf_10:OLq:=[Jq 23 (.bin .eql (.t 5) (Jk 25)),Jm 22 23]
abbrev oXf_11:OLq:=[Jq 24 (.ld (some 12) (.t 3)),Jq 25 (.call (.k (.c (.fn fXn [] []))) [.t 24]),Jm 4 25]
abbrev oXf_12:OLq:=[Jq 26 (.ld (some 12) (.t 3)),Jq 27 (.call (.k (.c (.fn fXg [] []))) [.t 26]),Jm 4 27]
def cXf:IC:=(.seq (.ops oXf_0) (.seq (.seq (.ops oXf_1) (.block 0 (.seq (.ops oXf_2) (.cond (.t 6) (.seq (.ops oXf_3) .ret) (.seq (.ops oXf_4) (.cond (.t 10) (.seq (.ops oXf_5) .ret) (.seq (.ops oXf_6) (.cond (.t 14) (.seq (.ops oXf_7) .ret) (.seq (.ops oXf_8) (.cond (.t 18) (.seq (.ops oXf_9) .ret) (.seq (.ops oXf_10) (.cond (.t 22) (.seq (.ops oXf_11) .ret) .skip)))))))))))) (.seq (.ops oXf_12) .ret)))
def iXf:IFn:=⟨28,cXf,[(4,none)]⟩
-- F 64 slices.IndexFunc[[]rota/api.Send,rota/api.Send]: bads 0, calls []
abbrev oX1g_0:OLq:=[Jq 4 (.mv (Jk 0))]
abbrev oX1g_1:OLq:=[Jm 6 0,Je 7 6,Jq 8 (.mv (Jk 0))]
abbrev oX1g_2:OLq:=[Jq 9 (.bin .lss (.t 8) (.t 7))]
abbrev oX1g_3:OLq:=[Jm 10 8,Jm 5 10]
abbrev oX1g_4:OLq:=[Jm 11 1,Jm 12 0,Jm 13 5,Ji 14 2 12 13,Jq 15 (.ld (some 2) (.t 14)),Jq 16 (.call (.t 11) [.t 15])]
abbrev oX1g_5:OLq:=[Jm 17 5,Jm 4 17]
abbrev oX1g_6:OLq:=[Jq 18 (.bin .add (.t 8) (Jk 1)),Jm 8 18]
def bX1g_7:IC:=(.seq (.ops oX1g_2) (.seq (.cond (.t 9) .skip (.exit 0)) (.seq (.block 1 (.seq (.ops oX1g_3) (.seq (.ops oX1g_4) (.cond (.t 16) (.seq (.ops oX1g_5) .ret) .skip)))) (.ops oX1g_6))))
abbrev oX1g_8:OLq:=[Jq 4 (.mv (Jk (-1)))]
def cX1g:IC:=(.seq (.ops oX1g_0) (.seq (.seq (.ops oX1g_1) (.block 0 (.loop bX1g_7))) (.seq (.ops oX1g_8) .ret)))
def iX1g:IFn:=⟨19,cX1g,[(4,none)]⟩
-- F 65 (*rota/bus.Bus).pass$1: bads 0, calls []
abbrev oX9_0:OLq:=[Jq 2 (.box 56 (.t 0)),Jq 3 (.mv (.k (.c (.bool false))))]
abbrev oX9_1:OLq:=[Jl 4 1,Jq 5 (.bin .geq (.t 4) (Jk 0)),Jm 6 5,⟨(some 7),.fa 0 (.t 2),some (6,true)⟩,⟨(some 8),.ld none (.t 7),some (6,true)⟩,⟨(some 9),.ld none (.t 1),some (6,true)⟩,⟨(some 10),.bin .eql (.t 8) (.t 9),some (6,true)⟩,Jq 11 (.pick (.t 6) (.t 10) (.k (.c (.bool false)))),Jm 3 11]
def cX9:IC:=(.seq (.ops oX9_0) (.seq (.ops oX9_1) .ret))
def iX9:IFn:=⟨12,cX9,[(3,none)]⟩
-- F 66 (*sync/atomic.Uint64).Add: bads 0, calls [83]
abbrev oX2_0:OLq:=[Jq 4 (.mv (.k (.c (.int .u64 0))))]
abbrev oX2_1:OLq:=[Jm 5 0,Jn 6 5,Jf 7 0 6,Jm 8 1,Jq 9 (.call (.k (.c (.fn fX0 [] []))) [.t 7,.t 8]),Jm 4 9]
def cX2:IC:=(.seq (.ops oX2_0) (.seq (.ops oX2_1) .ret))
def iX2:IFn:=⟨10,cX2,[(4,none)]⟩
-- F 67 rota/frame.bits$1: bads 0, calls []
abbrev oX12_0:OLq:=[Jq 4 (.mv (Jk 0))]
abbrev oX12_1:OLq:=[Jq 5 (.bin .lss (.t 4) (Jk 32))]
abbrev oX12_2:OLq:=[Jm 6 4,Jm 3 6]
abbrev oX12_3:OLq:=[Jl 7 1,Jm 8 3,Jq 9 (.bin .shr (.t 7) (.t 8)),Jq 10 (.bin .eql (.t 9) (.k (.c (.int .u32 0))))]
abbrev oX12_4:OLq:=[Jl 11 1,Jm 12 3,Jq 13 (.bin .shr (.t 11) (.t 12)),Jq 14 (.bin .and (.t 13) (.k (.c (.int .u32 1)))),Jq 15 (.bin .eql (.t 14) (.k (.c (.int .u32 1)))),Jm 16 15,⟨(some 17),.mv (.t 0),some (16,true)⟩,⟨(some 18),.mv (.t 3),some (16,true)⟩,⟨(some 19),.call (.t 17) [.t 18],some (16,true)⟩,⟨(some 20),.un .not (.t 19),some (16,true)⟩,Jq 21 (.pick (.t 16) (.t 20) (.k (.c (.bool false))))]
abbrev oX12_5:OLq:=[Jq 22 (.bin .add (.t 4) (Jk 1)),Jm 4 22]
def bX12_6:IC:=(.seq (.ops oX12_1) (.seq (.cond (.t 5) .skip (.exit 0)) (.seq (.block 1 (.seq (.ops oX12_2) (.seq (.seq (.ops oX12_3) (.cond (.t 10) (.exit 0) .skip)) (.seq (.ops oX12_4) (.cond (.t 21) (.exit 0) .skip))))) (.ops oX12_5))))
def cX12:IC:=(.seq .skip (.seq .skip (.seq (.ops oX12_0) (.block 0 (.loop bX12_6)))))
def iX12:IFn:=⟨23,cX12,[]⟩
-- F 75 sync/atomic.LoadUint64: NO BODY
-- F 77 rota/config.nodes: bads 0, calls [90, 91]
abbrev oXi_0:OLq:=[Jq 1 (.box 39 (.t 0)),Jq 2 (.mv (.k (.c (.bool false))))]
abbrev oXi_1:OLq:=[Jf 4 0 1,Jl 5 4,Jq 6 (.call (.k (.c (.fn fXp [] []))) [.t 5,(Jk 4),(Jk 16)]),Jq 7 (.un .not (.t 6)),Jm 8 7,⟨(some 9),.fa 1 (.t 1),some (8,false)⟩,⟨(some 10),.ld none (.t 9),some (8,false)⟩,⟨(some 11),.len false (.t 10),some (8,false)⟩,⟨(some 12),.fa 0 (.t 1),some (8,false)⟩,⟨(some 13),.ld none (.t 12),some (8,false)⟩,⟨(some 14),.bin .neq (.t 11) (.t 13),some (8,false)⟩,Jq 15 (.pick (.t 8) (.k (.c (.bool true))) (.t 14))]
abbrev oXi_2:OLq:=[Jq 2 (.mv (.k (.c (.bool false))))]
abbrev oXi_3:OLq:=[Jf 16 0 1,Jl 17 16,Jq 18 (.mv (Jk 0))]
abbrev oXi_4:OLq:=[Jq 19 (.bin .lss (.t 18) (.t 17))]
abbrev oXi_5:OLq:=[Jm 20 18,Jm 3 20]
abbrev oXi_6:OLq:=[Jf 21 1 1,Jl 22 21,Jm 23 3,Jq 24 (.call (.k (.c (.fn fX1f [] []))) [.t 22,.t 23]),Jq 25 (.un .not (.t 24))]
abbrev oXi_7:OLq:=[Jq 2 (.mv (.k (.c (.bool false))))]
abbrev oXi_8:OLq:=[Jq 26 (.bin .add (.t 18) (Jk 1)),Jm 18 26]
def bXi_9:IC:=(.seq (.ops oXi_4) (.seq (.cond (.t 19) .skip (.exit 0)) (.seq (.block 1 (.seq (.ops oXi_5) (.seq (.ops oXi_6) (.cond (.t 25) (.seq (.ops oXi_7) .ret) .skip)))) (.ops oXi_8))))
abbrev oXi_10:OLq:=[Jq 2 (.mv (.k (.c (.bool true))))]
def cXi:IC:=(.seq (.ops oXi_0) (.seq (.seq (.ops oXi_1) (.cond (.t 15) (.seq (.ops oXi_2) .ret) .skip)) (.seq (.seq (.ops oXi_3) (.block 0 (.loop bXi_9))) (.seq (.ops oXi_10) .ret))))
def iXi:IFn:=⟨27,cXi,[(2,none)]⟩
-- F 78 rota/config.clocks: bads 0, calls [90, 90, 92, 90, 90, 90, 90]
abbrev oXe_0:OLq:=[Jq 1 (.box 39 (.t 0)),Jq 2 (.mv (.k (.c (.bool false))))]
abbrev oXe_1:OLq:=[Jf 4 2 1,Jl 5 4,Jq 6 (.call (.k (.c (.fn fXp [] []))) [.t 5,(Jk 0),(Jk 1048576)]),Jq 7 (.un .not (.t 6)),Jm 8 7,⟨(some 9),.fa 3 (.t 1),some (8,false)⟩,⟨(some 10),.ld none (.t 9),some (8,false)⟩,⟨(some 11),.call (.k (.c (.fn fXp [] []))) [.t 10,(Jk 0),(Jk 1048576)],some (8,false)⟩,⟨(some 12),.un .not (.t 11),some (8,false)⟩,Jq 13 (.pick (.t 8) (.k (.c (.bool true))) (.t 12))]
abbrev oXe_2:OLq:=[Jq 2 (.mv (.k (.c (.bool false))))]
abbrev oXe_3:OLq:=[Jf 17 3 1,Jl 18 17,Jq 14 (.ld (some 12) (.t 1)),Jq 15 (.call (.k (.c (.fn fXd [] []))) [.t 14]),Kq (.same (some none) (.t 17) (.t 18)),Jq 16 (.bin .mul (Jk 2) (.t 15)),Jq 19 (.bin .add (.t 16) (.t 18)),Jm 3 19]
abbrev oXe_4:OLq:=[Jf 20 4 1,Jl 21 20,Jm 22 3,Jq 23 (.call (.k (.c (.fn fXp [] []))) [.t 21,.t 22,(Jk 16777216)]),Jm 24 23,⟨(some 25),.fa 5 (.t 1),some (24,true)⟩,⟨(some 26),.ld none (.t 25),some (24,true)⟩,⟨(some 27),.mv (.t 3),some (24,true)⟩,⟨(some 28),.call (.k (.c (.fn fXp [] []))) [.t 26,.t 27,(Jk 16777216)],some (24,true)⟩,Jq 29 (.pick (.t 24) (.t 28) (.k (.c (.bool false)))),Jm 30 29,⟨(some 31),.fa 6 (.t 1),some (30,true)⟩,⟨(some 32),.ld none (.t 31),some (30,true)⟩,⟨(some 33),.call (.k (.c (.fn fXp [] []))) [.t 32,(Jk 1),(Jk 8)],some (30,true)⟩,Jq 34 (.pick (.t 30) (.t 33) (.k (.c (.bool false)))),Jm 35 34,⟨(some 36),.fa 7 (.t 1),some (35,true)⟩,⟨(some 37),.ld none (.t 36),some (35,true)⟩,⟨(some 38),.call (.k (.c (.fn fXp [] []))) [.t 37,(Jk 1),(Jk 16)],some (35,true)⟩,Jq 39 (.pick (.t 35) (.t 38) (.k (.c (.bool false)))),Jm 2 39]
def cXe:IC:=(.seq (.ops oXe_0) (.seq (.seq (.ops oXe_1) (.cond (.t 13) (.seq (.ops oXe_2) .ret) .skip)) (.seq (.ops oXe_3) (.seq (.ops oXe_4) .ret))))
def iXe:IFn:=⟨40,cXe,[(2,none)]⟩
-- F 79 rota/config.parts: bads 0, calls [90, 90, 93, 94]
abbrev oXl_0:OLq:=[Jq 1 (.box 39 (.t 0)),Jq 2 (.new 4 (.c (.bool false)))]
abbrev oXl_1:OLq:=[Jf 9 8 1,Jl 10 9,Je 11 10,Jq 12 (.bin .gtr (.t 11) (Jk 32))]
abbrev oXl_2:OLq:=[Kq (.st 1 (.t 2) (.k (.c (.bool false))))]
abbrev oXl_3:OLq:=[Jf 13 8 1,Jl 14 13,Je 15 14,Jq 16 (.mv (Jk 0))]
abbrev oXl_4:OLq:=[Jq 17 (.bin .lss (.t 16) (.t 15))]
abbrev oXl_5:OLq:=[Ji 18 3 14 16,Jq 19 (.ld (some 3) (.t 18)),Jq 4 (.new 154 (.agg [(.int .i64 0),(.int .i64 0),(.int .i64 0)])),Kq (.st 3 (.t 4) (.t 19))]
abbrev oXl_6:OLq:=[Jf 20 0 4,Jl 21 20,Jf 22 0 1,Jl 23 22,Jq 24 (.bin .sub (.t 23) (Jk 1)),Jq 25 (.call (.k (.c (.fn fXp [] []))) [.t 21,(Jk 0),.t 24]),Jq 26 (.un .not (.t 25)),Jm 27 26,⟨(some 28),.fa 1 (.t 4),some (27,false)⟩,⟨(some 29),.ld none (.t 28),some (27,false)⟩,⟨(some 30),.fa 2 (.t 4),some (27,false)⟩,⟨(some 31),.ld none (.t 30),some (27,false)⟩,⟨(some 32),.call (.k (.c (.fn fXp [] []))) [.t 29,(Jk 0),.t 31],some (27,false)⟩,⟨(some 33),.un .not (.t 32),some (27,false)⟩,Jq 34 (.pick (.t 27) (.k (.c (.bool true))) (.t 33)),Jm 35 34,⟨(some 36),.fa 2 (.t 4),some (35,false)⟩,⟨(some 37),.ld none (.t 36),some (35,false)⟩,⟨(some 38),.bin .gtr (.t 37) (Jk 256),some (35,false)⟩,Jq 39 (.pick (.t 35) (.k (.c (.bool true))) (.t 38))]
abbrev oXl_7:OLq:=[Kq (.st 1 (.t 2) (.k (.c (.bool false))))]
abbrev oXl_8:OLq:=[Jq 40 (.bin .add (.t 16) (Jk 1)),Jm 16 40]
def bXl_9:IC:=(.seq (.ops oXl_4) (.seq (.cond (.t 17) .skip (.exit 0)) (.seq (.block 1 (.seq (.ops oXl_5) (.seq (.ops oXl_6) (.cond (.t 39) (.seq (.ops oXl_7) .ret) .skip)))) (.ops oXl_8))))
abbrev oXl_10:OLq:=[Jf 41 8 1,Jl 42 41,Je 43 42,Jq 44 (.call (.k (.c (.fn fXj [] []))) [.t 43])]
abbrev oXl_11:OLq:=[Jm 5 45]
abbrev oXl_12:OLq:=[Jm 6 46]
abbrev oXl_13:OLq:=[Jm 54 6,Jf 52 8 1,Jl 53 52,Ji 55 3 53 54,Jq 56 (.ld (some 3) (.t 55)),Jm 49 5,Jf 47 8 1,Jl 48 47,Ji 50 3 48 49,Jq 51 (.ld (some 3) (.t 50)),Jq 7 (.new 154 (.agg [(.int .i64 0),(.int .i64 0),(.int .i64 0)])),Jq 8 (.new 154 (.agg [(.int .i64 0),(.int .i64 0),(.int .i64 0)])),Kq (.st 3 (.t 7) (.t 51)),Kq (.same (some none) (.t 52) (.t 53)),Kq (.same (some (some 3)) (.t 55) (.t 56)),Kq (.st 3 (.t 8) (.t 56))]
abbrev oXl_14:OLq:=[Jf 57 0 7,Jl 58 57,Jf 59 0 8,Jl 60 59,Jq 61 (.bin .eql (.t 58) (.t 60)),Jm 62 61,⟨(some 63),.fa 1 (.t 7),some (62,true)⟩,⟨(some 64),.ld none (.t 63),some (62,true)⟩,⟨(some 65),.fa 2 (.t 7),some (62,true)⟩,⟨(some 66),.ld none (.t 65),some (62,true)⟩,⟨(some 67),.fa 1 (.t 8),some (62,true)⟩,⟨(some 68),.ld none (.t 67),some (62,true)⟩,⟨(some 69),.fa 2 (.t 8),some (62,true)⟩,⟨(some 70),.ld none (.t 69),some (62,true)⟩,⟨(some 71),.call (.k (.c (.fn fXh [] []))) [.t 64,.t 66,.t 68,.t 70],some (62,true)⟩,Jq 72 (.pick (.t 62) (.t 71) (.k (.c (.bool false))))]
abbrev oXl_15:OLq:=[Kq (.st 1 (.t 2) (.k (.c (.bool false))))]
def aXl_16:IC:=(.seq (.ops oXl_11) (.ops oXl_12))
def bXl_17:IC:=(.block 3 (.seq (.ops oXl_13) (.seq (.ops oXl_14) (.cond (.t 72) (.seq (.ops oXl_15) .ret) .skip))))
abbrev oXl_18:OLq:=[Kq (.st 1 (.t 2) (.k (.c (.bool true))))]
def cXl:IC:=(.seq (.ops oXl_0) (.seq (.seq (.ops oXl_1) (.cond (.t 12) (.seq (.ops oXl_2) .ret) .skip)) (.seq (.seq (.ops oXl_3) (.block 0 (.loop bXl_9))) (.seq (.seq (.ops oXl_10) (.block 2 (.rangeF (.t 44) [45,46] aXl_16 bXl_17))) (.seq (.ops oXl_18) .ret)))))
def iXl:IFn:=⟨73,cXl,[(2,(some none))]⟩
-- F 80 rota/config.windows: bads 0, calls [90]
abbrev oXo_0:OLq:=[Jq 1 (.box 39 (.t 0)),Jq 2 (.mv (.k (.c (.bool false))))]
abbrev oXo_1:OLq:=[Jf 7 9 1,Jl 8 7,Je 9 8,Jf 10 0 1,Jl 11 10,Jq 12 (.bin .neq (.t 9) (.t 11))]
abbrev oXo_2:OLq:=[Jq 2 (.mv (.k (.c (.bool false))))]
abbrev oXo_3:OLq:=[Jf 13 9 1,Jl 14 13,Je 15 14,Jq 16 (.mv (Jk 0))]
abbrev oXo_4:OLq:=[Jq 17 (.bin .lss (.t 16) (.t 15))]
abbrev oXo_5:OLq:=[Jm 18 16,Ji 19 1 14 16,Jl 20 19,Jm 3 18,Jm 4 20]
abbrev oXo_6:OLq:=[Jm 21 4,Je 22 21,Jf 23 0 1,Jl 24 23,Jq 25 (.bin .neq (.t 22) (.t 24))]
abbrev oXo_7:OLq:=[Jq 2 (.mv (.k (.c (.bool false))))]
abbrev oXo_8:OLq:=[Jm 26 4,Je 27 26,Jq 28 (.mv (Jk 0))]
abbrev oXo_9:OLq:=[Jq 29 (.bin .lss (.t 28) (.t 27))]
abbrev oXo_10:OLq:=[Ji 30 1 26 28,Jl 31 30,Jm 6 31]
abbrev oXo_11:OLq:=[Jm 32 6,Jq 33 (.bin .neq (.t 32) (Jk (-1))),Jm 34 33,⟨(some 35),.mv (.t 6),some (34,true)⟩,⟨(some 36),.fa 8 (.t 1),some (34,true)⟩,⟨(some 37),.ld none (.t 36),some (34,true)⟩,⟨(some 38),.len false (.t 37),some (34,true)⟩,⟨(some 39),.bin .sub (.t 38) (Jk 1),some (34,true)⟩,⟨(some 40),.call (.k (.c (.fn fXp [] []))) [.t 35,(Jk 0),.t 39],some (34,true)⟩,⟨(some 41),.un .not (.t 40),some (34,true)⟩,⟨(some 42),.mv (.t 41),some (34,true)⟩,⟨(some 43),.fa 8 (.t 1),some (42,false)⟩,⟨(some 44),.ld none (.t 43),some (42,false)⟩,⟨(some 45),.mv (.t 6),some (42,false)⟩,⟨(some 46),.iaS 3 (.t 44) (.t 45),some (42,false)⟩,⟨(some 47),.fa 0 (.t 46),some (42,false)⟩,⟨(some 48),.ld none (.t 47),some (42,false)⟩,⟨(some 49),.mv (.t 3),some (42,false)⟩,⟨(some 50),.bin .neq (.t 48) (.t 49),some (42,false)⟩,⟨(some 51),.pick (.t 42) (.k (.c (.bool true))) (.t 50),some (34,true)⟩,Jq 52 (.pick (.t 34) (.t 51) (.k (.c (.bool false))))]
abbrev oXo_12:OLq:=[Jq 2 (.mv (.k (.c (.bool false))))]
abbrev oXo_13:OLq:=[Jq 53 (.bin .add (.t 28) (Jk 1)),Jm 28 53]
def bXo_14:IC:=(.seq (.ops oXo_9) (.seq (.cond (.t 29) .skip (.exit 2)) (.seq (.block 3 (.seq (.ops oXo_10) (.seq (.ops oXo_11) (.cond (.t 52) (.seq (.ops oXo_12) .ret) .skip)))) (.ops oXo_13))))
abbrev oXo_15:OLq:=[Jq 54 (.bin .add (.t 16) (Jk 1)),Jm 16 54]
def bXo_16:IC:=(.seq (.ops oXo_4) (.seq (.cond (.t 17) .skip (.exit 0)) (.seq (.block 1 (.seq (.ops oXo_5) (.seq (.seq (.ops oXo_6) (.cond (.t 25) (.seq (.ops oXo_7) .ret) .skip)) (.seq (.ops oXo_8) (.block 2 (.loop bXo_14)))))) (.ops oXo_15))))
abbrev oXo_17:OLq:=[Jq 2 (.mv (.k (.c (.bool true))))]
def cXo:IC:=(.seq (.ops oXo_0) (.seq (.seq (.ops oXo_1) (.cond (.t 12) (.seq (.ops oXo_2) .ret) .skip)) (.seq (.seq (.ops oXo_3) (.block 0 (.loop bXo_16))) (.seq (.ops oXo_17) .ret))))
def iXo:IFn:=⟨55,cXo,[(2,none)]⟩
-- F 81 rota/config.ports: bads 0, calls [90, 90, 90]
abbrev oXn_0:OLq:=[Jq 1 (.box 39 (.t 0)),Jq 2 (.mv (.k (.c (.bool false))))]
abbrev oXn_1:OLq:=[Jf 7 10 1,Jl 8 7,Je 9 8,Jq 10 (.bin .gtr (.t 9) (Jk 64))]
abbrev oXn_2:OLq:=[Jq 2 (.mv (.k (.c (.bool false))))]
abbrev oXn_3:OLq:=[Jf 11 10 1,Jl 12 11,Je 13 12,Jq 14 (.mv (Jk 0))]
abbrev oXn_4:OLq:=[Jq 15 (.bin .lss (.t 14) (.t 13))]
abbrev oXn_5:OLq:=[Ji 16 6 12 14,Jq 17 (.ld (some 6) (.t 16)),Jq 4 (.new 158 (.agg (List.replicate 6 (.int .i64 0)))),Kq (.st 6 (.t 4) (.t 17))]
abbrev oXn_6:OLq:=[Jq 5 (.mv (Jk 0)),Jq 6 (.mv (Jk 0))]
abbrev oXn_7:OLq:=[Jf 19 1 4,Jl 20 19,Jq 21 (.bin .eql (.t 20) (Jk 2)),Jm 18 21]
abbrev oXn_8:OLq:=[Jf 22 4 4,Jl 23 22,Jq 24 (.mn (.t 23) [(Jk 8)]),Jq 25 (.mx (Jk 1) [.t 24]),Jm 5 25]
abbrev oXn_9:OLq:=[Jf 27 1 4,Jl 28 27,Jq 29 (.bin .eql (.t 28) (Jk 1)),Jm 30 29,⟨(some 31),.fa 2 (.t 4),some (30,true)⟩,⟨(some 32),.ld none (.t 31),some (30,true)⟩,⟨(some 33),.bin .eql (.t 32) (Jk 2),some (30,true)⟩,Jq 34 (.pick (.t 30) (.t 33) (.k (.c (.bool false)))),Jm 26 34]
abbrev oXn_10:OLq:=[Jf 35 5 4,Jl 36 35,Jq 37 (.mn (.t 36) [(Jk 65535)]),Jq 38 (.mx (Jk 1) [.t 37]),Jm 6 38]
abbrev oXn_11:OLq:=[Jf 40 1 4,Jl 41 40,Jq 42 (.bin .neq (.t 41) (Jk 1)),Jm 39 42]
abbrev oXn_12:OLq:=[Jq 2 (.mv (.k (.c (.bool false))))]
abbrev oXn_13:OLq:=[Jf 43 0 4,Jl 44 43,Jf 45 8 1,Jl 46 45,Je 47 46,Jq 48 (.bin .sub (.t 47) (Jk 1)),Jq 49 (.call (.k (.c (.fn fXp [] []))) [.t 44,(Jk 0),.t 48]),Jq 50 (.un .not (.t 49)),Jm 51 50,⟨(some 52),.fa 2 (.t 4),some (51,false)⟩,⟨(some 53),.ld none (.t 52),some (51,false)⟩,⟨(some 54),.call (.k (.c (.fn fXp [] []))) [.t 53,(Jk 1),(Jk 2)],some (51,false)⟩,⟨(some 55),.un .not (.t 54),some (51,false)⟩,Jq 56 (.pick (.t 51) (.k (.c (.bool true))) (.t 55)),Jm 57 56,⟨(some 58),.fa 3 (.t 4),some (57,false)⟩,⟨(some 59),.ld none (.t 58),some (57,false)⟩,⟨(some 60),.call (.k (.c (.fn fXp [] []))) [.t 59,(Jk 1),(Jk 32)],some (57,false)⟩,⟨(some 61),.un .not (.t 60),some (57,false)⟩,Jq 62 (.pick (.t 57) (.k (.c (.bool true))) (.t 61)),Jm 63 62,⟨(some 64),.fa 4 (.t 4),some (63,false)⟩,⟨(some 65),.ld none (.t 64),some (63,false)⟩,⟨(some 66),.mv (.t 5),some (63,false)⟩,⟨(some 67),.bin .neq (.t 65) (.t 66),some (63,false)⟩,Jq 68 (.pick (.t 63) (.k (.c (.bool true))) (.t 67)),Jm 69 68,⟨(some 70),.fa 5 (.t 4),some (69,false)⟩,⟨(some 71),.ld none (.t 70),some (69,false)⟩,⟨(some 72),.mv (.t 6),some (69,false)⟩,⟨(some 73),.bin .neq (.t 71) (.t 72),some (69,false)⟩,Jq 74 (.pick (.t 69) (.k (.c (.bool true))) (.t 73))]
abbrev oXn_14:OLq:=[Jq 2 (.mv (.k (.c (.bool false))))]
abbrev oXn_15:OLq:=[Jq 75 (.bin .add (.t 14) (Jk 1)),Jm 14 75]
def bXn_16:IC:=(.seq (.ops oXn_4) (.seq (.cond (.t 15) .skip (.exit 0)) (.seq (.block 1 (.seq (.ops oXn_5) (.seq (.ops oXn_6) (.seq (.block 2 (.seq (.ops oXn_7) (.cond (.t 18) (.ops oXn_8) (.seq (.ops oXn_9) (.cond (.t 26) (.ops oXn_10) (.seq (.ops oXn_11) (.cond (.t 39) (.seq (.ops oXn_12) .ret) .skip))))))) (.seq (.ops oXn_13) (.cond (.t 74) (.seq (.ops oXn_14) .ret) .skip)))))) (.ops oXn_15))))
abbrev oXn_17:OLq:=[Jq 2 (.mv (.k (.c (.bool true))))]
def cXn:IC:=(.seq (.ops oXn_0) (.seq (.seq (.ops oXn_1) (.cond (.t 10) (.seq (.ops oXn_2) .ret) .skip)) (.seq (.seq (.ops oXn_3) (.block 0 (.loop bXn_16))) (.seq (.ops oXn_17) .ret))))
def iXn:IFn:=⟨76,cXn,[(2,none)]⟩
-- F 82 rota/config.links: bads 0, calls [95, 90, 95, 93, 94]
abbrev oXg_0:OLq:=[Jq 1 (.box 39 (.t 0)),Jq 2 (.new 4 (.c (.bool false)))]
abbrev oXg_1:OLq:=[Jf 18 11 1,Jl 19 18,Je 20 19,Jq 21 (.bin .gtr (.t 20) (Jk 64))]
abbrev oXg_2:OLq:=[Kq (.st 1 (.t 2) (.k (.c (.bool false))))]
abbrev oXg_3:OLq:=[Jf 22 10 1,Jl 23 22,Je 24 23,Jq 25 (.mksl 3 1 8 [(.int .i64 0)] (.t 24) (.t 24)),Jm 3 25]
abbrev oXg_4:OLq:=[Jf 26 11 1,Jl 27 26,Je 28 27,Jq 29 (.mv (Jk 0))]
abbrev oXg_5:OLq:=[Jq 30 (.bin .lss (.t 29) (.t 28))]
abbrev oXg_6:OLq:=[Ji 31 3 27 29,Jq 32 (.ld (some 3) (.t 31)),Jq 5 (.new 100 (.agg [(.int .i64 0),(.sl none 0 0 false),(.int .i64 0)])),Kq (.st 3 (.t 5) (.t 32))]
abbrev oXg_7:OLq:=[Jq 34 (.ld (some 12) (.t 1)),Jf 35 0 5,Jl 36 35,Jq 37 (.call (.k (.c (.fn fXm [] []))) [.t 34,.t 36]),Jm 33 37,Jx 38 33 0,Jx 39 33 1,Jq 6 (.new 158 (.agg (List.replicate 6 (.int .i64 0)))),Kq (.st 6 (.t 6) (.t 38)),Jm 7 39]
abbrev oXg_8:OLq:=[Jm 40 7,Jq 41 (.un .not (.t 40)),Jm 42 41,⟨(some 43),.fa 2 (.t 6),some (42,false)⟩,⟨(some 44),.ld none (.t 43),some (42,false)⟩,⟨(some 45),.bin .neq (.t 44) (Jk 1),some (42,false)⟩,Jq 46 (.pick (.t 42) (.k (.c (.bool true))) (.t 45)),Jm 47 46,⟨(some 48),.fa 1 (.t 5),some (47,false)⟩,⟨(some 49),.ld none (.t 48),some (47,false)⟩,⟨(some 50),.len false (.t 49),some (47,false)⟩,⟨(some 51),.bin .eql (.t 50) (Jk 0),some (47,false)⟩,Jq 52 (.pick (.t 47) (.k (.c (.bool true))) (.t 51)),Jm 53 52,⟨(some 54),.fa 2 (.t 5),some (53,false)⟩,⟨(some 55),.ld none (.t 54),some (53,false)⟩,⟨(some 56),.fa 3 (.t 6),some (53,false)⟩,⟨(some 57),.ld none (.t 56),some (53,false)⟩,⟨(some 58),.bin .sub (Jk 63) (.t 57),some (53,false)⟩,⟨(some 59),.call (.k (.c (.fn fXp [] []))) [.t 55,(Jk 0),.t 58],some (53,false)⟩,⟨(some 60),.un .not (.t 59),some (53,false)⟩,Jq 61 (.pick (.t 53) (.k (.c (.bool true))) (.t 60)),Jm 62 61,⟨(some 63),.mv (.t 3),some (62,false)⟩,⟨(some 64),.fa 0 (.t 5),some (62,false)⟩,⟨(some 65),.ld none (.t 64),some (62,false)⟩,⟨(some 66),.iaS 1 (.t 63) (.t 65),some (62,false)⟩,⟨(some 67),.ld none (.t 66),some (62,false)⟩,⟨(some 68),.bin .gtr (.t 67) (Jk 0),some (62,false)⟩,Jq 69 (.pick (.t 62) (.k (.c (.bool true))) (.t 68))]
abbrev oXg_9:OLq:=[Kq (.st 1 (.t 2) (.k (.c (.bool false))))]
abbrev oXg_10:OLq:=[Jm 70 3,Jf 71 0 5,Jl 72 71,Ji 73 1 70 72,Jl 74 73,Jq 75 (.bin .add (.t 74) (Jk 1)),Ji 76 1 70 72,Kq (.st 1 (.t 76) (.t 75))]
abbrev oXg_11:OLq:=[Jf 77 1 5,Jl 78 77,Je 79 78,Jq 80 (.mv (Jk 0))]
abbrev oXg_12:OLq:=[Jq 81 (.bin .lss (.t 80) (.t 79))]
abbrev oXg_13:OLq:=[Jm 82 80,Ji 83 1 78 80,Jl 84 83,Jm 8 82,Jm 9 84]
abbrev oXg_14:OLq:=[Jq 86 (.ld (some 12) (.t 1)),Jm 87 9,Jq 88 (.call (.k (.c (.fn fXm [] []))) [.t 86,.t 87]),Jm 85 88,Jx 89 85 0,Jx 90 85 1,Jq 10 (.new 158 (.agg (List.replicate 6 (.int .i64 0)))),Kq (.st 6 (.t 10) (.t 89)),Jm 11 90]
abbrev oXg_15:OLq:=[Jm 91 11,Jq 92 (.un .not (.t 91)),Jm 93 92,⟨(some 94),.fa 2 (.t 10),some (93,false)⟩,⟨(some 95),.ld none (.t 94),some (93,false)⟩,⟨(some 96),.bin .neq (.t 95) (Jk 2),some (93,false)⟩,Jq 97 (.pick (.t 93) (.k (.c (.bool true))) (.t 96)),Jm 98 97,⟨(some 99),.fa 1 (.t 10),some (98,false)⟩,⟨(some 100),.ld none (.t 99),some (98,false)⟩,⟨(some 101),.fa 1 (.t 6),some (98,false)⟩,⟨(some 102),.ld none (.t 101),some (98,false)⟩,⟨(some 103),.bin .neq (.t 100) (.t 102),some (98,false)⟩,Jq 104 (.pick (.t 98) (.k (.c (.bool true))) (.t 103)),Jm 105 104,⟨(some 106),.fa 3 (.t 10),some (105,false)⟩,⟨(some 107),.ld none (.t 106),some (105,false)⟩,⟨(some 108),.fa 3 (.t 6),some (105,false)⟩,⟨(some 109),.ld none (.t 108),some (105,false)⟩,⟨(some 110),.bin .neq (.t 107) (.t 109),some (105,false)⟩,Jq 111 (.pick (.t 105) (.k (.c (.bool true))) (.t 110)),Jm 112 111,⟨(some 113),.mv (.t 3),some (112,false)⟩,⟨(some 114),.mv (.t 9),some (112,false)⟩,⟨(some 115),.iaS 1 (.t 113) (.t 114),some (112,false)⟩,⟨(some 116),.ld none (.t 115),some (112,false)⟩,⟨(some 117),.bin .gtr (.t 116) (Jk 0),some (112,false)⟩,Jq 118 (.pick (.t 112) (.k (.c (.bool true))) (.t 117))]
abbrev oXg_16:OLq:=[Kq (.st 1 (.t 2) (.k (.c (.bool false))))]
abbrev oXg_17:OLq:=[Jm 119 3,Jm 120 9,Ji 121 1 119 120,Jl 122 121,Jq 123 (.bin .add (.t 122) (Jk 1)),Ji 124 1 119 120,Kq (.st 1 (.t 124) (.t 123))]
abbrev oXg_18:OLq:=[Jm 125 8,Jf 126 1 5,Jl 127 126,Je 128 127,Jq 129 (.bin .sub (.t 128) (Jk 1)),Jq 130 (.bin .eql (.t 125) (.t 129))]
abbrev oXg_19:OLq:=[Jq 131 (.bin .add (.t 80) (Jk 1)),Jm 80 131]
def bXg_20:IC:=(.seq (.ops oXg_12) (.seq (.cond (.t 81) .skip (.exit 2)) (.seq (.block 3 (.seq (.ops oXg_13) (.seq (.ops oXg_14) (.seq (.seq (.ops oXg_15) (.cond (.t 118) (.seq (.ops oXg_16) .ret) .skip)) (.seq (.ops oXg_17) (.seq (.ops oXg_18) (.cond (.t 130) (.exit 1) .skip))))))) (.ops oXg_19))))
abbrev oXg_21:OLq:=[Jq 132 (.bin .add (.t 29) (Jk 1)),Jm 29 132]
def bXg_22:IC:=(.seq (.ops oXg_5) (.seq (.cond (.t 30) .skip (.exit 0)) (.seq (.block 1 (.seq (.ops oXg_6) (.seq (.ops oXg_7) (.seq (.seq (.ops oXg_8) (.cond (.t 69) (.seq (.ops oXg_9) .ret) .skip)) (.seq (.ops oXg_10) (.seq (.ops oXg_11) (.block 2 (.loop bXg_20)))))))) (.ops oXg_21))))
abbrev oXg_23:OLq:=[Jf 133 11 1,Jl 134 133,Je 135 134,Jq 136 (.call (.k (.c (.fn fXj [] []))) [.t 135])]
abbrev oXg_24:OLq:=[Jm 12 137]
abbrev oXg_25:OLq:=[Jm 13 138]
abbrev oXg_26:OLq:=[Jm 146 13,Jf 144 11 1,Jl 145 144,Ji 147 3 145 146,Jq 148 (.ld (some 3) (.t 147)),Jm 141 12,Jf 139 11 1,Jl 140 139,Ji 142 3 140 141,Jq 143 (.ld (some 3) (.t 142)),Jq 14 (.new 100 (.agg [(.int .i64 0),(.sl none 0 0 false),(.int .i64 0)])),Jq 15 (.new 100 (.agg [(.int .i64 0),(.sl none 0 0 false),(.int .i64 0)])),Kq (.st 3 (.t 14) (.t 143)),Kq (.same (some none) (.t 144) (.t 145)),Kq (.same (some (some 3)) (.t 147) (.t 148)),Kq (.st 3 (.t 15) (.t 148))]
abbrev oXg_27:OLq:=[Jf 157 0 15,Jl 158 157,Jf 155 10 1,Jl 156 155,Ji 159 6 156 158,Jq 160 (.ld (some 6) (.t 159)),Jf 151 0 14,Jl 152 151,Jf 149 10 1,Jl 150 149,Ji 153 6 150 152,Jq 154 (.ld (some 6) (.t 153)),Jq 16 (.new 158 (.agg (List.replicate 6 (.int .i64 0)))),Jq 17 (.new 158 (.agg (List.replicate 6 (.int .i64 0)))),Kq (.st 6 (.t 16) (.t 154)),Kq (.same (some none) (.t 157) (.t 158)),Kq (.same (some none) (.t 155) (.t 156)),Kq (.same (some (some 6)) (.t 159) (.t 160)),Kq (.st 6 (.t 17) (.t 160))]
abbrev oXg_28:OLq:=[Jf 161 8 1,Jl 162 161,Jf 163 0 16,Jl 164 163,Ji 165 3 162 164,Jf 166 0 165,Jl 167 166,Jf 168 8 1,Jl 169 168,Jf 170 0 17,Jl 171 170,Ji 172 3 169 171,Jf 173 0 172,Jl 174 173,Jq 175 (.bin .eql (.t 167) (.t 174)),Jm 176 175,⟨(some 177),.fa 2 (.t 14),some (176,true)⟩,⟨(some 178),.ld none (.t 177),some (176,true)⟩,⟨(some 179),.fa 2 (.t 14),some (176,true)⟩,⟨(some 180),.ld none (.t 179),some (176,true)⟩,⟨(some 181),.bin .add (.t 180) (Jk 1),some (176,true)⟩,⟨(some 182),.fa 3 (.t 16),some (176,true)⟩,⟨(some 183),.ld none (.t 182),some (176,true)⟩,⟨(some 184),.bin .add (.t 181) (.t 183),some (176,true)⟩,⟨(some 185),.fa 2 (.t 15),some (176,true)⟩,⟨(some 186),.ld none (.t 185),some (176,true)⟩,⟨(some 187),.fa 2 (.t 15),some (176,true)⟩,⟨(some 188),.ld none (.t 187),some (176,true)⟩,⟨(some 189),.bin .add (.t 188) (Jk 1),some (176,true)⟩,⟨(some 190),.fa 3 (.t 17),some (176,true)⟩,⟨(some 191),.ld none (.t 190),some (176,true)⟩,⟨(some 192),.bin .add (.t 189) (.t 191),some (176,true)⟩,⟨(some 193),.call (.k (.c (.fn fXh [] []))) [.t 178,.t 184,.t 186,.t 192],some (176,true)⟩,Jq 194 (.pick (.t 176) (.t 193) (.k (.c (.bool false))))]
abbrev oXg_29:OLq:=[Kq (.st 1 (.t 2) (.k (.c (.bool false))))]
def aXg_30:IC:=(.seq (.ops oXg_24) (.ops oXg_25))
def bXg_31:IC:=(.block 5 (.seq (.ops oXg_26) (.seq (.ops oXg_27) (.seq (.ops oXg_28) (.cond (.t 194) (.seq (.ops oXg_29) .ret) .skip)))))
abbrev oXg_32:OLq:=[Kq (.st 1 (.t 2) (.k (.c (.bool true))))]
def cXg:IC:=(.seq (.ops oXg_0) (.seq .skip (.seq (.seq (.ops oXg_1) (.cond (.t 21) (.seq (.ops oXg_2) .ret) .skip)) (.seq (.ops oXg_3) (.seq .skip (.seq (.seq (.ops oXg_4) (.block 0 (.loop bXg_22))) (.seq (.seq (.ops oXg_23) (.block 4 (.rangeF (.t 136) [137,138] aXg_30 bXg_31))) (.seq (.ops oXg_32) .ret))))))))
def iXg:IFn:=⟨195,cXg,[(2,(some none))]⟩
-- F 83 sync/atomic.AddUint64: NO BODY
-- F 90 rota/config.within: bads 0, calls []
abbrev oXp_0:OLq:=[Jq 6 (.mv (.k (.c (.bool false))))]
abbrev oXp_1:OLq:=[Jm 7 0,Jm 8 1,Jq 9 (.bin .geq (.t 7) (.t 8)),Jm 10 9,⟨(some 11),.mv (.t 0),some (10,true)⟩,⟨(some 12),.mv (.t 2),some (10,true)⟩,⟨(some 13),.bin .leq (.t 11) (.t 12),some (10,true)⟩,Jq 14 (.pick (.t 10) (.t 13) (.k (.c (.bool false)))),Jm 6 14]
def cXp:IC:=(.seq (.ops oXp_0) (.seq (.ops oXp_1) .ret))
def iXp:IFn:=⟨15,cXp,[(6,none)]⟩
-- F 91 slices.Contains[[]int,int]: bads 0, calls [96]
abbrev oX1f_0:OLq:=[Jq 4 (.mv (.k (.c (.bool false))))]
abbrev oX1f_1:OLq:=[Jm 5 0,Jm 6 1,Jq 7 (.call (.k (.c (.fn fX1h [] []))) [.t 5,.t 6]),Jq 8 (.bin .geq (.t 7) (Jk 0)),Jm 4 8]
def cX1f:IC:=(.seq (.ops oX1f_0) (.seq (.ops oX1f_1) .ret))
def iX1f:IFn:=⟨9,cX1f,[(4,none)]⟩
-- F 92 rota/config.Precision: bads 0, calls []
abbrev oXd_0:OLq:=[Jq 1 (.box 39 (.t 0)),Jq 2 (.mv (Jk 0))]
abbrev oXd_1:OLq:=[Jf 3 2 1,Jl 4 3,Jf 5 3 1,Jl 6 5,Jq 7 (.bin .add (.t 4) (.t 6)),Jq 8 (.bin .mul (Jk 2) (.t 7)),Jq 9 (.bin .add (.t 8) (Jk 1)),Jm 2 9]
def cXd:IC:=(.seq (.ops oXd_0) (.seq (.ops oXd_1) .ret))
def iXd:IFn:=⟨10,cXd,[(2,none)]⟩
-- F 93 rota/config.pairs: bads 0, calls [97]
abbrev oXj_0:OLq:=[Jq 1 (.box 3 (.t 0)),Jq 2 (.mv (.k (.c .nilFn)))]
abbrev oXj_1:OLq:=[Jq 3 (.mkfn fXk [] [.t 1]),Jm 2 3]
def cXj:IC:=(.seq (.ops oXj_0) (.seq (.ops oXj_1) .ret))
def iXj:IFn:=⟨4,cXj,[(2,none)]⟩
-- F 94 rota/config.meet: bads 0, calls []
abbrev oXh_0:OLq:=[Jq 8 (.mv (.k (.c (.bool false))))]
abbrev oXh_1:OLq:=[Jm 9 0,Jm 10 2,Jq 11 (.mx (.t 9) [.t 10]),Jm 12 1,Jm 13 3,Jq 14 (.mn (.t 12) [.t 13]),Jq 15 (.bin .lss (.t 11) (.t 14)),Jm 8 15]
def cXh:IC:=(.seq (.ops oXh_0) (.seq (.ops oXh_1) .ret))
def iXh:IFn:=⟨16,cXh,[(8,none)]⟩
-- F 95 rota/config.port: bads 0, calls [90]
abbrev oXm_0:OLq:=[Jq 2 (.box 39 (.t 0)),Jq 4 (.new 158 (.agg (List.replicate 6 (.int .i64 0)))),Jq 5 (.mv (.k (.c (.bool false))))]
abbrev oXm_1:OLq:=[Jm 6 1,Jf 7 10 2,Jl 8 7,Je 9 8,Jq 10 (.bin .sub (.t 9) (Jk 1)),Jq 11 (.call (.k (.c (.fn fXp [] []))) [.t 6,(Jk 0),.t 10]),Jq 12 (.un .not (.t 11))]
abbrev oXm_2:OLq:=[Jq 13 (.build (List.replicate 6 (.int .i64 0)) []),Kq (.st 6 (.t 4) (.t 13)),Jq 5 (.mv (.k (.c (.bool false))))]
abbrev oXm_3:OLq:=[Jf 14 10 2,Jl 15 14,Jm 16 1,Ji 17 6 15 16,Jq 18 (.ld (some 6) (.t 17)),Kq (.st 6 (.t 4) (.t 18)),Jq 5 (.mv (.k (.c (.bool true))))]
def cXm:IC:=(.seq (.ops oXm_0) (.seq (.seq (.ops oXm_1) (.cond (.t 12) (.seq (.ops oXm_2) .ret) .skip)) (.seq (.ops oXm_3) .ret)))
def iXm:IFn:=⟨19,cXm,[(4,(some (some 6))),(5,none)]⟩
-- F 96 slices.Index[[]int,int]: bads 0, calls []
abbrev oX1h_0:OLq:=[Jq 4 (.mv (Jk 0))]
abbrev oX1h_1:OLq:=[Jm 6 0,Je 7 6,Jq 8 (.mv (Jk 0))]
abbrev oX1h_2:OLq:=[Jq 9 (.bin .lss (.t 8) (.t 7))]
abbrev oX1h_3:OLq:=[Jm 10 8,Jm 5 10]
abbrev oX1h_4:OLq:=[Jm 11 1,Jm 12 0,Jm 13 5,Ji 14 1 12 13,Jl 15 14,Jq 16 (.bin .eql (.t 11) (.t 15))]
abbrev oX1h_5:OLq:=[Jm 17 5,Jm 4 17]
abbrev oX1h_6:OLq:=[Jq 18 (.bin .add (.t 8) (Jk 1)),Jm 8 18]
def bX1h_7:IC:=(.seq (.ops oX1h_2) (.seq (.cond (.t 9) .skip (.exit 0)) (.seq (.block 1 (.seq (.ops oX1h_3) (.seq (.ops oX1h_4) (.cond (.t 16) (.seq (.ops oX1h_5) .ret) .skip)))) (.ops oX1h_6))))
abbrev oX1h_8:OLq:=[Jq 4 (.mv (Jk (-1)))]
def cX1h:IC:=(.seq (.ops oX1h_0) (.seq (.seq (.ops oX1h_1) (.block 0 (.loop bX1h_7))) (.seq (.ops oX1h_8) .ret)))
def iX1h:IFn:=⟨19,cX1h,[(4,none)]⟩
-- F 97 rota/config.pairs$1: bads 0, calls []
abbrev oXk_0:OLq:=[Jl 5 1,Jq 6 (.mv (Jk 0))]
abbrev oXk_1:OLq:=[Jq 7 (.bin .lss (.t 6) (.t 5))]
abbrev oXk_2:OLq:=[Jm 8 6,Jm 3 8]
abbrev oXk_3:OLq:=[Jm 9 3,Jq 10 (.mv (Jk 0))]
abbrev oXk_4:OLq:=[Jq 11 (.bin .lss (.t 10) (.t 9))]
abbrev oXk_5:OLq:=[Jm 12 10,Jm 4 12]
abbrev oXk_6:OLq:=[Jm 13 0,Jm 14 4,Jm 15 3,Jq 16 (.call (.t 13) [.t 14,.t 15]),Jq 17 (.un .not (.t 16))]
abbrev oXk_7:OLq:=[Jq 18 (.bin .add (.t 10) (Jk 1)),Jm 10 18]
def bXk_8:IC:=(.seq (.ops oXk_4) (.seq (.cond (.t 11) .skip (.exit 2)) (.seq (.block 3 (.seq (.ops oXk_5) (.seq (.ops oXk_6) (.cond (.t 17) (.exit 0) .skip)))) (.ops oXk_7))))
abbrev oXk_9:OLq:=[Jq 19 (.bin .add (.t 6) (Jk 1)),Jm 6 19]
def bXk_10:IC:=(.seq (.ops oXk_1) (.seq (.cond (.t 7) .skip (.exit 0)) (.seq (.block 1 (.seq (.ops oXk_2) (.seq (.ops oXk_3) (.block 2 (.loop bXk_8))))) (.ops oXk_9))))
def cXk:IC:=(.seq .skip (.seq .skip (.seq (.ops oXk_0) (.block 0 (.loop bXk_10)))))
def iXk:IFn:=⟨20,cXk,[]⟩
def X:FuncId→Option (List V→Heap→Option (V × Heap)):=fun f=>if f=fX1 then some loadX else if f=fX0 then some addX else none
def fs:List (Nat × IFn):=[(fX17,iX17),(fXq,iXq),(fX18,iX18),(fX1c,iX1c),(fX19,iX19),(fXs,iXs),(fXc,iXc),(fX10,iX10),(fXw,iXw),(fXu,iXu),(fXv,iXv),(fXt,iXt),(fX1a,iX1a),(fX1b,iX1b),(fXr,iXr),(fXy,iXy),(fXa,iXa),(fX16,iX16),(fX1j,iX1j),(fXx,iXx),(fX5,iX5),(fXz,iXz),(fX4,iX4),(fX15,iX15),(fX13,iX13),(fX1i,iX1i),(fXb,iXb),(fX1e,iX1e),(fX8,iX8),(fX6,iX6),(fX7,iX7),(fX1d,iX1d),(fX11,iX11),(fX3,iX3),(fX14,iX14),(fXf,iXf),(fX1g,iX1g),(fX9,iX9),(fX2,iX2),(fX12,iX12),(fXi,iXi),(fXe,iXe),(fXl,iXl),(fXo,iXo),(fXn,iXn),(fXg,iXg),(fXp,iXp),(fX1f,iX1f),(fXd,iXd),(fXj,iXj),(fXh,iXh),(fXm,iXm),(fX1h,iX1h),(fXk,iXk)]
def F:FuncId→Option Fun:=funsX fs X
theorem eX17:F fX17=some (.code ⟨224,cX17,[(4,none)]⟩):=by rfl
theorem eXq:F fXq=some (.code ⟨55,cXq,[(8,(some (some 67))),(9,none)]⟩):=by rfl
theorem eX18:F fX18=some (.code ⟨14,cX18,[(0,none)]⟩):=by rfl
theorem eX1c:F fX1c=some (.code ⟨72,cX1c,[(2,none)]⟩):=by rfl
theorem eX19:F fX19=some (.code ⟨64,cX19,[(2,none)]⟩):=by rfl
theorem eXs:F fXs=some (.code ⟨39,cXs,[(2,none),(3,none)]⟩):=by rfl
theorem eXc:F fXc=some (.code ⟨28,cXc,[(4,none)]⟩):=by rfl
theorem eX10:F fX10=some (.code ⟨53,cX10,[(2,none),(3,none)]⟩):=by rfl
theorem eXw:F fXw=some (.code ⟨111,cXw,[(10,none),(11,none),(12,none)]⟩):=by rfl
theorem eXu:F fXu=some (.code ⟨38,cXu,[(6,none)]⟩):=by rfl
theorem eXv:F fXv=some (.code ⟨26,cXv,[(2,none),(3,none)]⟩):=by rfl
theorem eXt:F fXt=some (.code ⟨18,cXt,[(2,none)]⟩):=by rfl
theorem eX1a:F fX1a=some (.code ⟨17,cX1a,[(2,none)]⟩):=by rfl
theorem eX1b:F fX1b=some (.code ⟨43,cX1b,[(10,none)]⟩):=by rfl
theorem eXr:F fXr=some (.code ⟨29,cXr,[(6,none)]⟩):=by rfl
theorem eXy:F fXy=some (.code ⟨40,cXy,[(6,(some (some 67))),(7,none)]⟩):=by rfl
theorem eXa:F fXa=some (.code ⟨15,cXa,[(2,none),(3,none)]⟩):=by rfl
theorem eX16:F fX16=some (.code ⟨26,cX16,[(2,none)]⟩):=by rfl
theorem eX1j:F fX1j=some (.code ⟨5,cX1j,[(2,none)]⟩):=by rfl
theorem eXx:F fXx=some (.code ⟨13,cXx,[(2,none)]⟩):=by rfl
theorem eX5:F fX5=some (.code ⟨84,cX5,[(8,none),(9,none)]⟩):=by rfl
theorem eXz:F fXz=some (.code ⟨48,cXz,[(6,none)]⟩):=by rfl
theorem eX4:F fX4=some (.code ⟨9,cX4,[(2,none)]⟩):=by rfl
theorem eX15:F fX15=some (.code ⟨40,cX15,[(2,(some (some 67))),(3,none)]⟩):=by rfl
theorem eX13:F fX13=some (.code ⟨38,cX13,[(4,none)]⟩):=by rfl
theorem eX1i:F fX1i=some (.code ⟨37,cX1i,[(4,none)]⟩):=by rfl
theorem eXb:F fXb=some (.code ⟨13,cXb,[(2,none)]⟩):=by rfl
theorem eX1e:F fX1e=some (.code ⟨8,cX1e,[(2,none)]⟩):=by rfl
theorem eX8:F fX8=some (.code ⟨44,cX8,[(6,none),(7,none)]⟩):=by rfl
theorem eX6:F fX6=some (.code ⟨5,cX6,[(1,none)]⟩):=by rfl
theorem eX7:F fX7=some (.code ⟨32,cX7,[(4,none)]⟩):=by rfl
theorem eX1d:F fX1d=some (.code ⟨8,cX1d,[(2,none)]⟩):=by rfl
theorem eX11:F fX11=some (.code ⟨4,cX11,[(2,none)]⟩):=by rfl
theorem eX3:F fX3=some (.code ⟨7,cX3,[(2,none)]⟩):=by rfl
theorem eX14:F fX14=some (.code ⟨18,cX14,[(2,none)]⟩):=by rfl
theorem eXf:F fXf=some (.code ⟨28,cXf,[(4,none)]⟩):=by rfl
theorem eX1g:F fX1g=some (.code ⟨19,cX1g,[(4,none)]⟩):=by rfl
theorem eX9:F fX9=some (.code ⟨12,cX9,[(3,none)]⟩):=by rfl
theorem eX2:F fX2=some (.code ⟨10,cX2,[(4,none)]⟩):=by rfl
theorem eX12:F fX12=some (.code ⟨23,cX12,[]⟩):=by rfl
theorem eXi:F fXi=some (.code ⟨27,cXi,[(2,none)]⟩):=by rfl
theorem eXe:F fXe=some (.code ⟨40,cXe,[(2,none)]⟩):=by rfl
theorem eXl:F fXl=some (.code ⟨73,cXl,[(2,(some none))]⟩):=by rfl
theorem eXo:F fXo=some (.code ⟨55,cXo,[(2,none)]⟩):=by rfl
theorem eXn:F fXn=some (.code ⟨76,cXn,[(2,none)]⟩):=by rfl
theorem eXg:F fXg=some (.code ⟨195,cXg,[(2,(some none))]⟩):=by rfl
theorem eXp:F fXp=some (.code ⟨15,cXp,[(6,none)]⟩):=by rfl
theorem eX1f:F fX1f=some (.code ⟨9,cX1f,[(4,none)]⟩):=by rfl
theorem eXd:F fXd=some (.code ⟨10,cXd,[(2,none)]⟩):=by rfl
theorem eXj:F fXj=some (.code ⟨4,cXj,[(2,none)]⟩):=by rfl
theorem eXh:F fXh=some (.code ⟨16,cXh,[(8,none)]⟩):=by rfl
theorem eXm:F fXm=some (.code ⟨19,cXm,[(4,(some (some 6))),(5,none)]⟩):=by rfl
theorem eX1h:F fX1h=some (.code ⟨19,cX1h,[(4,none)]⟩):=by rfl
theorem eXk:F fXk=some (.code ⟨20,cXk,[]⟩):=by rfl
end Go.Proofs.YtjcgdcadflplcaaDoor.AM.D21
namespace Go.Proofs.YtjcgdcadflplcaaDoor.AM.C02
open Go Go.Proofs.YtjcgdcadflplcaaDoor.AM
noncomputable def dB (p:Prop):Bool:=@decide p (Classical.propDecidable p)
theorem dB_t {p:Prop} (h:p):dB p=true:=by unfold dB;exact @decide_eq_true p (Classical.propDecidable p) h
theorem dB_f {p:Prop} (h:¬p):dB p=false:=by unfold dB;exact @decide_eq_false p (Classical.propDecidable p) h
theorem dB_iff {p q:Prop} (h:p↔q):dB p=dB q:=by rw[propext h]
abbrev cn (x:Int) (l:List Int):Nat:=l.countP fun y=>decide (y=x)
theorem cn_pos {x:Int} {l:List Int}:0<cn x l↔x∈l:=by
 rw[List.countP_pos_iff];simp
theorem cn_app (x:Int) (a b:List Int):cn x (a++b)=cn x a+cn x b:=List.countP_append
theorem cn_one (x y:Int):cn x [y]=if y=x then 1 else 0:=by simp[cn,List.countP_cons]
structure Pt where
 part:Int
 kind:Int
 dir:Int
 size:Int
 depth:Int
 fresh:Int
abbrev Pt.cells (p:Pt):List Cell:=[.int .i64 p.part,.int .i64 p.kind,.int .i64 p.dir,.int .i64 p.size,.int .i64 p.depth,.int .i64 p.fresh]
def Pt.ok (p:Pt):Prop:=(p.kind=1∨p.kind=2)∧(p.dir=1∨p.dir=2)∧1≤p.size∧p.size≤32∧
 (p.kind=2→1≤p.depth∧p.depth≤8∧p.fresh=0)∧(p.kind≠2→p.depth=0∧(p.dir=2→1≤p.fresh∧p.fresh≤65535)∧(p.dir≠2→p.fresh=0))
structure Pa where
 node:Int
 lo:Int
 hi:Int
structure Lk where
 src:Int
 dests:List Int
 off:Int
structure Cfg where
 nodes:Int
 owners:List Int
 drift:Int
 reading:Int
 margin:Int
 bound:Int
 rejoin:Int
 quota:Int
 parts:List Pa
 wins:List (List Int)
 ports:List Pt
 links:List Lk
abbrev Pa.cells (p:Pa):List Cell:=[.int .i64 p.node,.int .i64 p.lo,.int .i64 p.hi]
def pa0:Pa:=⟨0,0,0⟩
def pt0:Pt:=⟨0,0,0,0,0,0⟩
def lk0:Lk:=⟨0,[],0⟩
namespace Cfg
variable (c:Cfg)
def part (n:Int):Pa:=c.parts.getD n.toNat pa0
def port (n:Int):Pt:=c.ports.getD n.toNat pt0
def link (n:Nat):Lk:=c.links.getD n lk0
def okNodes:Prop:=4≤c.nodes∧c.nodes≤16∧(c.owners.length:Int)=c.nodes∧∀n:Nat,(n:Int)<c.nodes→(n:Int)∈c.owners
def prec:Int:=2 * (c.drift+c.reading)+1
def okClock:Prop:=0≤c.drift∧c.drift≤1048576∧0≤c.reading∧c.reading≤1048576∧2 * c.prec+c.reading≤c.margin∧c.margin≤16777216∧2 * c.prec+c.reading≤c.bound∧c.bound≤16777216∧1≤c.rejoin∧c.rejoin≤8∧1≤c.quota∧c.quota≤16
def okPart (p:Pa):Prop:=0≤p.node∧p.node≤c.nodes-1∧0≤p.lo∧p.lo≤p.hi∧p.hi≤256
def meets (a b d e:Int):Prop:=max a d<min b e
def apartP (i k:Nat):Prop:=¬((c.part i).node=(c.part k).node∧meets (c.part i).lo (c.part i).hi (c.part k).lo (c.part k).hi)
def okParts:Prop:=c.parts.length≤32∧(∀p∈c.parts,c.okPart p)∧∀i k,i<k→k<c.parts.length→c.apartP i k
def okWin (n:Nat) (p:Int):Prop:=p=-1∨(0≤p∧p<c.parts.length∧(c.part p).node=n)
def okWins:Prop:=(c.wins.length:Int)=c.nodes∧∀i row,c.wins[i]?=some row→(row.length:Int)=c.nodes∧∀p∈row,c.okWin i p
def okPort (p:Pt):Prop:=p.ok∧0≤p.part∧p.part<c.parts.length
def okPorts:Prop:=c.ports.length≤64∧∀p∈c.ports,c.okPort p
def isP (n:Int):Prop:=0≤n∧n<c.ports.length
def okDest (s n:Int):Prop:=c.isP n∧(c.port n).dir=2∧(c.port n).kind=(c.port s).kind∧(c.port n).size=(c.port s).size
def okSrc (l:Lk):Prop:=c.isP l.src∧(c.port l.src).dir=1∧l.dests≠[]∧0≤l.off∧l.off≤63-(c.port l.src).size
def okLink (l:Lk):Prop:=c.okSrc l∧∀n∈l.dests,c.okDest l.src n
def used (ls:List Lk):List Int:=ls.flatMap fun l=>l.src :: l.dests
def apartL (i k:Nat):Prop:=¬((c.part (c.port (c.link i).src).part).node=(c.part (c.port (c.link k).src).part).node∧
 meets (c.link i).off ((c.link i).off+1+(c.port (c.link i).src).size) (c.link k).off ((c.link k).off+1+(c.port (c.link k).src).size))
def okLinks:Prop:=c.links.length≤64∧(∀l∈c.links,c.okLink l)∧(∀n:Int,cn n (used c.links)≤1)∧∀i k,i<k→k<c.links.length→c.apartL i k
noncomputable def check:Int:=
 if dB c.okNodes=false then 21 else if dB c.okClock=false then 22 else if dB c.okParts=false then 23 else if dB c.okWins=false then 24 else if dB c.okPorts=false then 25 else if dB c.okLinks=false then 26 else 0
structure ok:Prop where
 nodes:c.okNodes
 clock:c.okClock
 parts:c.okParts
 wins:c.okWins
 ports:c.okPorts
 links:c.okLinks
end Cfg
theorem Cfg.check_ok {c:Cfg}:c.check=0↔c.ok:=by
 unfold Cfg.check
 constructor
 ·intro h
  repeat' split at h
  all_goals first|(simp at h;done)|skip
  have key:∀{p:Prop},¬dB p=false→p:=fun {p} h=>Classical.byContradiction fun hn=>h (dB_f hn)
  refine⟨key ?_,key ?_,key ?_,key ?_,key ?_,key ?_⟩<;>assumption
 ·rintro⟨h1,h2,h3,h4,h5,h6⟩
  simp[dB_t h1,dB_t h2,dB_t h3,dB_t h4,dB_t h5,dB_t h6]
def PaR (_:Heap) (p:Pa) (cs:List Cell):Prop:=cs=p.cells∧i64 p.node∧i64 p.lo∧i64 p.hi
def PtR (_:Heap) (p:Pt) (cs:List Cell):Prop:=cs=p.cells∧i64 p.part∧i64 p.kind∧i64 p.dir∧i64 p.size∧i64 p.depth∧i64 p.fresh
def RowR (N:Nat) (H:Heap) (r:List Int) (cs:List Cell):Prop:=∃a c o,cs=[.sl a r.length c o]∧Sl H 1 a r.length (nums r)∧(∀b x,a=some (b,x)→b<N)∧(∀y∈r,i64 y)∧r.length≤c∧c≤maxLen
def LkR (N:Nat) (H:Heap) (l:Lk) (cs:List Cell):Prop:=∃a c o,cs=[.int .i64 l.src,.sl a l.dests.length c o,.int .i64 l.off]∧Sl H 1 a l.dests.length (nums l.dests)∧(∀b x,a=some (b,x)→b<N)∧(∀y∈l.dests,i64 y)∧l.dests.length≤c∧c≤maxLen∧i64 l.src∧i64 l.off
structure CfgB (N:Nat) (H:Heap) (c:Cfg) (a1 a8 a9 a10 a11:Option Ad):Prop where
 owners:Sl H 1 a1 c.owners.length (nums c.owners)
 ownersN:∀b x,a1=some (b,x)→b<N
 parts:Tab 3 PaR N H a8 c.parts
 wins:Tab 1 (RowR N) N H a9 c.wins
 ports:Tab 6 PtR N H a10 c.ports
 links:Tab 3 (LkR N) N H a11 c.links
 i_nodes:i64 c.nodes
 i_drift:i64 c.drift
 i_reading:i64 c.reading
 i_margin:i64 c.margin
 i_bound:i64 c.bound
 i_rejoin:i64 c.rejoin
 i_quota:i64 c.quota
 i_owners:∀y∈c.owners,i64 y
 partsS:Sl H 3 a8 c.parts.length (c.parts.map Pa.cells).flatten
 partsN:∀b x,a8=some (b,x)→b<N
 portsS:Sl H 6 a10 c.ports.length (c.ports.map Pt.cells).flatten
 portsN:∀b x,a10=some (b,x)→b<N
structure Hd where
 a1:Option Ad
 c1:Nat
 a8:Option Ad
 c8:Nat
 a9:Option Ad
 c9:Nat
 a10:Option Ad
 c10:Nat
 a11:Option Ad
 c11:Nat
 o1:Bool
 o8:Bool
 o9:Bool
 o10:Bool
 o11:Bool
abbrev Cfg.cells (c:Cfg) (h:Hd):List Cell:=[.int .i64 c.nodes,.sl h.a1 c.owners.length h.c1 h.o1,.int .i64 c.drift,.int .i64 c.reading,.int .i64 c.margin,.int .i64 c.bound,.int .i64 c.rejoin,.int .i64 c.quota,
 .sl h.a8 c.parts.length h.c8 h.o8,.sl h.a9 c.wins.length h.c9 h.o9,.sl h.a10 c.ports.length h.c10 h.o10,.sl h.a11 c.links.length h.c11 h.o11]
structure Caps (c:Cfg) (h:Hd):Prop where
 owners:c.owners.length≤h.c1∧h.c1≤maxLen
 parts:c.parts.length≤h.c8∧h.c8≤maxLen
 wins:c.wins.length≤h.c9∧h.c9≤maxLen
 ports:c.ports.length≤h.c10∧h.c10≤maxLen
 links:c.links.length≤h.c11∧h.c11≤maxLen
abbrev CfgM (N:Nat) (H:Heap) (c:Cfg) (h:Hd):Prop:=CfgB N H c h.a1 h.a8 h.a9 h.a10 h.a11
theorem RowR.keep {N:Nat} {H H':Heap} {r:List Int} {cs:List Cell} (hx:∀c,c<N→H'[c]?=H[c]?) (h:RowR N H r cs):RowR N H' r cs:=by
 obtain⟨a,c,o,rfl,h1,h2,h3⟩:=h
 exact⟨a,c,o,rfl,h1.keep fun b x e=>hx b (h2 b x e),h2,h3⟩
theorem LkR.keep {N:Nat} {H H':Heap} {l:Lk} {cs:List Cell} (hx:∀c,c<N→H'[c]?=H[c]?) (h:LkR N H l cs):LkR N H' l cs:=by
 obtain⟨a,c,o,rfl,h1,h2,h3⟩:=h
 exact⟨a,c,o,rfl,h1.keep fun b x e=>hx b (h2 b x e),h2,h3⟩
theorem CfgB.keep {N:Nat} {H H':Heap} {c:Cfg} {a1 a8 a9 a10 a11:Option Ad} (h:CfgB N H c a1 a8 a9 a10 a11) (hx:∀c,c<N→H'[c]?=H[c]?):CfgB N H' c a1 a8 a9 a10 a11 where
 owners:=h.owners.keep fun b x e=>hx b (h.ownersN b x e)
 ownersN:=h.ownersN
 parts:=h.parts.keep (fun _ _ k=>k) hx
 wins:=h.wins.keep (fun _ _ k=>RowR.keep hx k) hx
 ports:=h.ports.keep (fun _ _ k=>k) hx
 links:=h.links.keep (fun _ _ k=>LkR.keep hx k) hx
 i_nodes:=h.i_nodes
 i_drift:=h.i_drift
 i_reading:=h.i_reading
 i_margin:=h.i_margin
 i_bound:=h.i_bound
 i_rejoin:=h.i_rejoin
 i_quota:=h.i_quota
 i_owners:=h.i_owners
 partsS:=h.partsS.keep fun b x e=>hx b (h.partsN b x e)
 partsN:=h.partsN
 portsS:=h.portsS.keep fun b x e=>hx b (h.portsN b x e)
 portsN:=h.portsN
abbrev I:Ty:=.int .i64
abbrev Pa.T:Ty:=.pair I (.pair I (.pair I .unit))
abbrev Pt.T:Ty:=.pair I (.pair I (.pair I (.pair I (.pair I (.pair I .unit)))))
abbrev Lk.T:Ty:=.pair I (.pair (.sl I) (.pair I .unit))
abbrev Cfg.T:Ty:=.pair I (.pair (.sl I) (.pair I (.pair I (.pair I (.pair I (.pair I (.pair I (.pair (.sl Pa.T) (.pair (.sl (.sl I)) (.pair (.sl Pt.T) (.pair (.sl Lk.T) .unit)))))))))))
theorem pa_row {H:Heap} {x:Pa.T.D} {cs:List Cell} (h:Vw Pa.T H x cs):∃e,PaR H e cs:=by
 obtain⟨_,_,rfl,⟨rfl,w1⟩,_,_,rfl,⟨rfl,w2⟩,_,_,rfl,⟨rfl,w3⟩,rfl⟩:=h
 exact⟨⟨_,_,_⟩,rfl,wf_i64 w1,wf_i64 w2,wf_i64 w3⟩
theorem pt_row {H:Heap} {x:Pt.T.D} {cs:List Cell} (h:Vw Pt.T H x cs):∃e,PtR H e cs:=by
 obtain⟨_,_,rfl,⟨rfl,w1⟩,_,_,rfl,⟨rfl,w2⟩,_,_,rfl,⟨rfl,w3⟩,_,_,rfl,⟨rfl,w4⟩,_,_,rfl,⟨rfl,w5⟩,_,_,rfl,⟨rfl,w6⟩,rfl⟩:=h
 exact⟨⟨_,_,_,_,_,_⟩,rfl,wf_i64 w1,wf_i64 w2,wf_i64 w3,wf_i64 w4,wf_i64 w5,wf_i64 w6⟩
theorem parts_of {H:Heap} {x:List Pa.T.D} {cs:List Cell} (h:Vw (.sl Pa.T) H x cs):∃(a:Option Ad) (c:Nat) (l:List Pa),cs=[.sl a l.length c false]∧l.length≤c∧c≤maxLen∧Tab 3 PaR H.length H a l∧Sl H 3 a l.length (l.map Pa.cells).flatten∧∀b z,a=some (b,z)→b<H.length:=by
 obtain⟨a,c,l,h1,h2,h3,h4,h5,h6,-⟩:=Vw.tabS (T:=Pa.T) (mk:=Pa.cells) (P:=fun e=>i64 e.node∧i64 e.lo∧i64 e.hi) (S:=fun _ _=>True) (fun x cs h=>by
  obtain⟨e,q1,q2⟩:=pa_row h
  exact⟨e,q1,q2,trivial⟩) h
 exact⟨a,c,l,h1,h2,h3,h4.tab rfl (by show 0<3;omega) (fun _=>rfl) h5 fun e he=>⟨rfl,h6 e he⟩,h4,h5⟩
theorem ports_of {H:Heap} {x:List Pt.T.D} {cs:List Cell} (h:Vw (.sl Pt.T) H x cs):∃(a:Option Ad) (c:Nat) (l:List Pt),cs=[.sl a l.length c false]∧l.length≤c∧c≤maxLen∧Tab 6 PtR H.length H a l∧Sl H 6 a l.length (l.map Pt.cells).flatten∧(∀b z,a=some (b,z)→b<H.length)∧All2 (fun x _=>1≤wt Pt.T x) x l:=by
 obtain⟨a,c,l,h1,h2,h3,h4,h5,h6,h7⟩:=Vw.tabS (T:=Pt.T) (mk:=Pt.cells) (P:=fun e=>i64 e.part∧i64 e.kind∧i64 e.dir∧i64 e.size∧i64 e.depth∧i64 e.fresh) (S:=fun x _=>1≤wt Pt.T x) (fun x cs h=>by
  obtain⟨e,q1,q2⟩:=pt_row h
  exact⟨e,q1,q2,by show 1≤1+_;omega⟩) h
 exact⟨a,c,l,h1,h2,h3,h4.tab rfl (by show 0<6;omega) (fun _=>rfl) h5 fun e he=>⟨rfl,h6 e he⟩,h4,h5,h7⟩
end Go.Proofs.YtjcgdcadflplcaaDoor.AM.C02
