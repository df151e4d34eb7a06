/- ShadeT Val2 CkA CkB CkC CkD CkE CkF. -/
import Derived.KernelRfl
import Derived.Test.YtomdfaelgcefdaaGreatDoorGau
set_option maxRecDepth 100000
set_option maxHeartbeats 64000000
namespace Go.Proofs.YtomdfaelgcefdaaGreatDoor
open Go
namespace Sh
open Q
def LT0 : List Nat := [0,2,3,4,5,7,9,10,11,12,24,30,31,34,35,36,37,53,56,57,58,59,65,83,97,107]
def LT1 : List Nat := [0,2,3,4,5,6,7,8,9,10,17,32,46,72,82,118]
def LT2 : List Nat := [0,2,3,4,5,12,32,38]
def LT3 : List Nat := [0,1,4,5,6,8,16,34]
def LT4 : List Nat := [0,47,48,49,50,51,52,54,55,56,57,58,59]
def LT5 : List Nat := [0,1,2,6,7,8,20]
def LT6 : List Nat := [0,119,120,121,9,8]
def LT7 : List Nat := [0,3,4,10]
def LT8 : List Nat := [0,119,120,121,9,5]
def F101 : FC KT ElT := ⟨(.seq (.reg [k (c .nils) 4,k (i 0) 5] LT3) (.seq (.seq (.reg [m 0 7,q (.call 50) (a 7) 8] LT3) (.cond (t 8) (.seq (.reg [k (c .nils) 4,k (i 7) 5] LT3) .ret) .skip)) (.seq (.seq (.reg [m 1 9,q (.conv .u64) (a 9) 10,m 0 11,q .nilck (a 11) 12,q (.faddr 6) (a 12) 13,q (.call 52) (a 13) 14,q (.conv .u64) (a 14) 15,q (.bin .geq .num) [(t 10),(t 15)] 16] LT3) (.cond (t 16) (.seq (.reg [k (c .nils) 4,k (i 133) 5] LT3) .ret) .skip)) (.seq (.tree (.q 0 (m 0 17) (.q 1 (q .nilck (a 17) 18) (.q 2 (q (.faddr 6) (a 18) 19) (.q 3 (q (.faddr 0) (a 19) 20) (.q 4 (q (.load 1 false) (a 20) 21) (.q 5 (m 0 22) (.q 6 (q .nilck (a 22) 23) (.q 7 (q (.faddr 6) (a 23) 24) (.q 10 (m 1 27) (.q 11 (q (.conv .i64) (a 27) 28) (.br 8 ⟨.none,(.call 52),(a 24),(.some 25),[0,17,18,19,20,1,27]⟩ (.q 9 (q (.bin .sub .num) [(t 25),(i 1)] 26) (.q 12 (q (.bin .sub .num) [(t 26),(t 28)] 29) (.q 13 (q (.iaddr .frame) [(t 21),(t 29)] 30) (.q 14 (q (.load 6 true) (a 30) 31) (.one 15 ⟨.none,(.alloc [(.int .i64 0),.nils,.nils,(.int .i64 0),.nils,(.bool false)]),[],(.some 6),[0,17,18,19,20,22,23,1,27,25,26,28,21,29,30]⟩ (.one 16 (p (.store 6) [(t 6),(t 31)]) .done)))))) (.one 15 ⟨.none,(.alloc [(.int .i64 0),.nils,.nils,(.int .i64 0),.nils,(.bool false)]),[],(.some 6),[0,17,18,19,20,22,23,1,27]⟩ (.one 8 ⟨.none,(.call 52),(a 24),(.some 25),[0,17,18,19,20,1,27]⟩ (.q 9 (q (.bin .sub .num) [(t 25),(i 1)] 26) (.q 12 (q (.bin .sub .num) [(t 26),(t 28)] 29) (.q 13 (q (.iaddr .frame) [(t 21),(t 29)] 30) (.q 14 (q (.load 6 true) (a 30) 31) (.one 16 (p (.store 6) [(t 6),(t 31)]) .done)))))))))))))))))) LT3) (.seq (.seq (.reg [q (.faddr 0) (a 6) 32,q (.load 1 false) (a 32) 33,q (.bin .eql .num) [(t 33),(i 3)] 34] LT3) (.cond (t 34) (.seq (.reg [q (.faddr 1) (a 6) 35,q (.load 1 false) (a 35) 36,q (.call 51) (a 36) 37,m 37 4,k (i 0) 5] LT3) .ret) .skip)) (.seq (.reg [q (.faddr 2) (a 6) 38,q (.load 1 false) (a 38) 39,q (.call 51) (a 39) 40,m 40 4,k (i 0) 5] LT3) .ret)))))),[(4,.none),(5,.none)],41⟩
theorem sh101 : shade S 101 LT3 [] = some F101 := by kernel_rfl
def F71 : FC KT ElT := ⟨(.seq (.reg [k (i 0) 2] LT0) (.seq (.reg [m 0 14,m 0 15,q .nilck (a 15) 16,q (.faddr 10) (a 16) 17,q (.faddr 1) (a 17) 18,q (.load 1 false) (a 18) 19,q (.call 119) [(t 14),(t 19),(i 2)] 20,m 20 13,q (.extract 0) (a 13) 21,q (.extract 1) (a 13) 22,q (.alloc [(.int .i64 0),.nils,.nils,.nils]) [] 3,p (.store 4) [(t 3),(t 21)],m 22 4] LT0) (.seq (.seq (.reg [m 4 23,q (.bin .neq .num) [(t 23),(i 0)] 24] LT0) (.cond (t 24) (.seq (.reg [m 4 25,m 25 2] LT0) .ret) .skip)) (.seq (.seq (.reg [m 0 26,q .nilck (a 26) 27,q (.faddr 10) (a 27) 28,q (.faddr 0) (a 28) 29,q (.load 1 false) (a 29) 30] LT0) (.block 0 (.seq (.reg [q (.bin .eql .num) [(t 30),(i 64256)] 32,m 32 31] LT0) (.cond (t 31) (.seq (.reg [k (c .nils) 5] LT0) (.seq (.seq (.reg [q (.faddr 3) (a 3) 33,q (.load 1 false) (a 33) 34,q (.len false) (a 34) 35,k (i 0) 36] LT0) (.block 1 (.loop (.seq (.reg [q (.bin .lss .num) [(t 36),(t 35)] 37] LT0) (.seq (.cond (t 37) .skip (.exit 1)) (.seq (.block 2 (.seq (.reg [q (.iaddr .fld) [(t 34),(t 36)] 38,q (.load 4 true) (a 38) 39,⟨.none,(.alloc [(.int .i64 0),(.bool false),(.int .i64 0),(.bool false)]),[],(.some 7),[]⟩,p (.store 4) [(t 7),(t 39)]] LT0) (.reg [m 5 40,q (.faddr 0) (a 7) 41,q (.load 3 true) (a 41) 42,q (.call 120) (a 42) 43,q (.mkrow .vt) (a 43) 44,q (.append .vt) [(t 40),(t 44)] 45,m 45 5] LT0))) (.reg [q (.bin .add .num) [(t 36),(i 1)] 46,m 46 36] LT0)))) [0,5,34,35,36]))) (.seq (.reg [m 0 47,m 0 48,q (.call 121) [(t 48),(c (.bool false))] 49,q (.mkrow .vt) (a 49) 50,m 5 51,q (.call 72) [(t 47),(t 50),(t 51)] 52,m 52 2] LT0) .ret))) (.seq (.reg [q (.bin .eql .num) [(t 30),(i 64257)] 54,m 54 53] LT0) (.cond (t 53) (.seq (.seq (.reg [q (.faddr 3) (a 3) 55,q (.load 1 false) (a 55) 56,q (.len false) (a 56) 57,k (i 0) 58] LT0) (.block 3 (.loop (.seq (.reg [q (.bin .lss .num) [(t 58),(t 57)] 59] LT0) (.seq (.cond (t 59) .skip (.exit 3)) (.seq (.block 4 (.seq (.reg [q (.iaddr .fld) [(t 56),(t 58)] 60,q (.load 4 true) (a 60) 61,⟨.none,(.alloc [(.int .i64 0),(.bool false),(.int .i64 0),(.bool false)]),[],(.some 9),[]⟩,p (.store 4) [(t 9),(t 61)]] LT0) (.seq (.reg [q (.faddr 0) (a 9) 62,q (.load 3 true) (a 62) 63,q (.call 62) (a 63) 64,q (.un .not) (a 64) 65] LT0) (.cond (t 65) (.seq (.reg [k (i 163) 2] LT0) .ret) .skip)))) (.reg [q (.bin .add .num) [(t 58),(i 1)] 66,m 66 58] LT0)))) [0,56,57,58]))) (.seq (.reg [m 0 67,q .nilck (a 67) 68,q (.faddr 9) (a 68) 69,q (.load 1 false) (a 69) 70,m 0 71,⟨.none,(.call 121),[(t 71),(c (.bool false))],(.some 72),[0,67,68,69]⟩,q (.call 92) [(t 70),(t 72)] 73,m 73 2] LT0) .ret)) .skip)))))) (.seq (.seq (.reg [m 0 74,q .nilck (a 74) 75,q (.faddr 10) (a 75) 76,q (.faddr 2) (a 76) 77,q (.load 1 false) (a 77) 78,q (.faddr 3) (a 3) 79,q (.load 1 false) (a 79) 80,q (.len false) (a 80) 81,q (.call 112) [(t 78),(t 81)] 82,q (.un .not) (a 82) 83] LT0) (.cond (t 83) (.seq (.reg [k (i 150) 2] LT0) .ret) .skip)) (.seq (.reg [q (.faddr 3) (a 3) 84,q (.load 1 false) (a 84) 85,m 0 86,q .nilck (a 86) 87,q (.faddr 10) (a 87) 88,q (.faddr 2) (a 88) 89,q (.load 1 false) (a 89) 90,q (.iaddr .fld) [(t 85),(t 90)] 91,q (.load 4 true) (a 91) 92,⟨.none,(.alloc [(.int .i64 0),(.bool false),(.int .i64 0),(.bool false)]),[],(.some 10),[3,84,0,86,87,88,89,85,90,91]⟩,p (.store 4) [(t 10),(t 92)]] LT0) (.seq (.seq (.reg [m 0 93,q (.load 4 true) (a 10) 94,q (.call 122) [(t 93),(t 94)] 95,m 95 11] LT0) (.seq (.reg [m 11 96,q (.bin .neq .num) [(t 96),(i 0)] 97] LT0) (.cond (t 97) (.seq (.reg [m 11 98,m 98 2] LT0) .ret) .skip))) (.seq (.reg [q (.faddr 0) (a 10) 99,q (.load 3 true) (a 99) 100,q (.call 120) (a 100) 101,⟨.none,(.alloc [(.int .i64 0),(.bool false),(.int .i64 0)]),[],(.some 12),[]⟩,p (.store 3) [(t 12),(t 101)]] LT0) (.seq (.seq (.reg [m 0 102,q .nilck (a 102) 103,q (.faddr 10) (a 103) 104,q (.faddr 0) (a 104) 105,q (.load 1 false) (a 105) 106,q (.bin .eql .num) [(t 106),(i 64261)] 107] LT0) (.cond (t 107) (.seq (.reg [m 0 108,m 0 109,q (.load 3 true) (a 12) 111,⟨.none,(.call 121),[(t 109),(c (.bool true))],(.some 110),[0,12]⟩,⟨.none,(.mkrow .vt),[(t 110),(t 111)],(.some 112),[0]⟩,q (.call 72) [(t 108),(c .nils),(t 112)] 113,m 113 2] LT0) .ret) .skip)) (.seq (.tree (.q 0 (m 0 114) (.q 1 (q (.load 3 true) (a 12) 115) (.q 3 (m 0 117) (.br 2 ⟨.none,(.mkrow .vt),(a 115),(.some 116),[0]⟩ (.one 4 ⟨.none,(.call 121),[(t 117),(c (.bool true))],(.some 118),[0,12]⟩ (.one 5 ⟨.none,(.mkrow .vt),(a 118),(.some 119),[0,12]⟩ (.one 6 (q (.call 72) [(t 114),(t 116),(t 119)] 120) (.q 7 (m 120 2) .done)))) (.one 4 ⟨.none,(.call 121),[(t 117),(c (.bool true))],(.some 118),[0,12]⟩ (.br 2 ⟨.none,(.mkrow .vt),(a 115),(.some 116),[0]⟩ (.one 5 ⟨.none,(.mkrow .vt),(a 118),(.some 119),[0,12]⟩ (.one 6 (q (.call 72) [(t 114),(t 116),(t 119)] 120) (.q 7 (m 120 2) .done))) (.one 5 ⟨.none,(.mkrow .vt),(a 118),(.some 119),[0,12]⟩ (.one 2 ⟨.none,(.mkrow .vt),(a 115),(.some 116),[0]⟩ (.one 6 (q (.call 72) [(t 114),(t 116),(t 119)] 120) (.q 7 (m 120 2) .done)))))))))) LT0) .ret)))))))))),[(2,.none)],121⟩
theorem sh71 : shade S 71 LT0 [[0,5,34,35,36],[0,56,57,58]] = some F71 := by kernel_rfl
def F76 : FC KT ElT := ⟨(.seq (.reg [k (i 0) 2] LT2) (.seq (.seq (.reg [m 0 6,q .nilck (a 6) 7,q (.faddr 10) (a 7) 8,q (.faddr 15) (a 8) 9,q (.load 1 false) (a 9) 10,q (.len false) (a 10) 11,q (.bin .eql .num) [(t 11),(i 0)] 12] LT2) (.cond (t 12) (.seq (.reg [k (i 1) 2] LT2) .ret) .skip)) (.seq (.reg [m 0 13,q .nilck (a 13) 14,q (.faddr 10) (a 14) 15,q (.faddr 15) (a 15) 16,q (.load 1 false) (a 16) 17,q (.iaddr .vt) [(t 17),(i 0)] 18,q (.load 3 true) (a 18) 19,⟨.none,(.alloc [(.int .i64 0),(.bool false),(.int .i64 0)]),[],(.some 3),[]⟩,p (.store 3) [(t 3),(t 19)]] LT2) (.seq (.reg [m 0 21,q .nilck (a 21) 22,q (.faddr 0) (a 22) 23,q (.faddr 0) (a 23) 24,q (.load 1 false) (a 24) 25,q (.faddr 2) (a 3) 26,q (.load 1 false) (a 26) 27,q (.call 126) [(t 25),(t 27)] 28,m 28 20,q (.extract 0) (a 20) 29,q (.extract 1) (a 20) 30,m 29 4,m 30 5] LT2) (.seq (.seq (.reg [m 5 31,q (.bin .neq .num) [(t 31),(i 0)] 32] LT2) (.cond (t 32) (.seq (.reg [k (i 150) 2] LT2) .ret) .skip)) (.seq (.seq (.reg [m 0 33,q .nilck (a 33) 34,q (.faddr 10) (a 34) 35,q (.faddr 0) (a 35) 36,q (.load 1 false) (a 36) 37,q (.bin .lss .num) [(t 37),(i 64278)] 38] LT2) (.cond (t 38) (.reg [q (.call 73) [(i 1)] 39,p (.store 3) [(t 3),(t 39)]] LT2) .skip)) (.seq (.tree (.q 0 (m 0 40) (.q 1 (q (.load 3 true) (a 3) 41) (.q 3 (m 4 43) (.br 2 ⟨.none,(.mkrow .vt),(a 41),(.some 42),[0,4]⟩ (.one 4 ⟨.none,(.call 74),[(c (.bool true)),(t 43)],(.some 44),[0,3]⟩ (.one 5 ⟨.none,(.mkrow .vt),(a 44),(.some 45),[0,3]⟩ (.one 6 (q (.call 72) [(t 40),(t 42),(t 45)] 46) (.q 7 (m 46 2) .done)))) (.one 4 ⟨.none,(.call 74),[(c (.bool true)),(t 43)],(.some 44),[0,3]⟩ (.br 2 ⟨.none,(.mkrow .vt),(a 41),(.some 42),[0,4]⟩ (.one 5 ⟨.none,(.mkrow .vt),(a 44),(.some 45),[0,3]⟩ (.one 6 (q (.call 72) [(t 40),(t 42),(t 45)] 46) (.q 7 (m 46 2) .done))) (.one 5 ⟨.none,(.mkrow .vt),(a 44),(.some 45),[0,3]⟩ (.one 2 ⟨.none,(.mkrow .vt),(a 41),(.some 42),[0,4]⟩ (.one 6 (q (.call 72) [(t 40),(t 42),(t 45)] 46) (.q 7 (m 46 2) .done)))))))))) LT2) .ret))))))),[(2,.none)],47⟩
theorem sh76 : shade S 76 LT2 [] = some F76 := by kernel_rfl
def F77 : FC KT ElT := ⟨(.seq (.reg [k (i 0) 2] LT1) (.seq (.seq (.reg [m 0 11,q .nilck (a 11) 12,q (.faddr 10) (a 12) 13,q (.faddr 15) (a 13) 14,q (.load 1 false) (a 14) 15,q (.len false) (a 15) 16,q (.bin .lss .num) [(t 16),(i 2)] 17] LT1) (.cond (t 17) (.seq (.reg [k (i 1) 2] LT1) .ret) .skip)) (.seq (.reg [m 0 19,q .nilck (a 19) 20,q (.faddr 9) (a 20) 21,q (.load 1 false) (a 21) 22,m 0 23,q .nilck (a 23) 24,q (.faddr 10) (a 24) 25,q (.faddr 1) (a 25) 26,q (.load 1 false) (a 26) 27,q (.call 101) [(t 22),(t 27)] 28,m 28 18,q (.extract 0) (a 18) 29,q (.extract 1) (a 18) 30,m 29 3,m 30 4] LT1) (.seq (.seq (.reg [m 4 31,q (.bin .neq .num) [(t 31),(i 0)] 32] LT1) (.cond (t 32) (.seq (.reg [m 4 33,m 33 2] LT1) .ret) .skip)) (.seq (.seq (.reg [m 3 34,q (.len false) (a 34) 35,q (.bin .eql .num) [(t 35),(i 0)] 36,m 36 37,g 37 false .mov (a 3) 38,g 37 false .mov (a 3) 39,g 37 false (.len false) (a 39) 40,g 37 false (.bin .sub .num) [(t 40),(i 1)] 41,g 37 false (.iaddr .vt) [(t 38),(t 41)] 42,g 37 false (.faddr 0) (a 42) 43,g 37 false (.load 1 false) (a 43) 44,g 37 false (.bin .neq .num) [(t 44),(i 5)] 45,q .pick [(t 37),(c (.bool true)),(t 45)] 46] LT1) (.cond (t 46) (.seq (.reg [k (i 131) 2] LT1) .ret) .skip)) (.seq (.tree (.q 0 (m 0 47) (.q 1 (q .nilck (a 47) 48) (.q 2 (q (.faddr 10) (a 48) 49) (.q 3 (q (.faddr 15) (a 49) 50) (.q 4 (q (.load 1 false) (a 50) 51) (.q 5 (q (.iaddr .vt) [(t 51),(i 0)] 52) (.q 6 (q (.load 3 true) (a 52) 53) (.q 7 (m 0 54) (.q 8 (q .nilck (a 54) 55) (.q 9 (q (.faddr 10) (a 55) 56) (.q 10 (q (.faddr 15) (a 56) 57) (.q 11 (q (.load 1 false) (a 57) 58) (.q 12 (q (.iaddr .vt) [(t 58),(i 1)] 59) (.q 13 (q (.load 3 true) (a 59) 60) (.br 14 ⟨.none,(.alloc [(.int .i64 0),(.bool false),(.int .i64 0)]),[],(.some 5),LT4⟩ (.one 15 ⟨.none,(.alloc [(.int .i64 0),(.bool false),(.int .i64 0)]),[],(.some 6),LT4⟩ (.one 16 ⟨.none,(.store 3),[(t 5),(t 53)],.none,[0,54,55,56,57,58,59]⟩ (.one 17 (p (.store 3) [(t 6),(t 60)]) .done))) (.one 15 ⟨.none,(.alloc [(.int .i64 0),(.bool false),(.int .i64 0)]),[],(.some 6),LT4⟩ (.one 14 ⟨.none,(.alloc [(.int .i64 0),(.bool false),(.int .i64 0)]),[],(.some 5),LT4⟩ (.one 16 ⟨.none,(.store 3),[(t 5),(t 53)],.none,[0,54,55,56,57,58,59]⟩ (.one 17 (p (.store 3) [(t 6),(t 60)]) .done))))))))))))))))))) LT1) (.seq (.seq (.reg [m 0 61,q (.faddr 2) (a 5) 62,q (.load 1 false) (a 62) 63,q (.call 115) [(t 61),(t 63)] 64,q (.un .not) (a 64) 65,m 65 66,g 66 false .mov (a 0) 67,g 66 false (.faddr 2) (a 6) 68,g 66 false (.load 1 false) (a 68) 69,g 66 false (.call 115) [(t 67),(t 69)] 70,g 66 false (.un .not) (a 70) 71,q .pick [(t 66),(c (.bool true)),(t 71)] 72] LT1) (.cond (t 72) (.seq (.reg [k (i 150) 2] LT1) .ret) .skip)) (.seq (.tree (.q 0 (q (.load 3 true) (a 6) 73) (.q 1 (q (.load 3 true) (a 5) 74) (.q 2 (q (.load 3 true) (a 6) 75) (.br 3 ⟨.none,(.call 127),[(t 74),(t 75)],(.some 76),[6]⟩ (.br 4 ⟨.none,(.alloc [(.int .i64 0),(.bool false),(.int .i64 0)]),[],(.some 7),[6,5]⟩ (.one 5 ⟨.none,(.alloc [(.int .i64 0),(.bool false),(.int .i64 0)]),[],(.some 8),[6,5]⟩ (.one 6 (p (.store 3) [(t 7),(t 73)]) (.one 7 (p (.store 3) [(t 8),(t 76)]) .done))) (.one 5 ⟨.none,(.alloc [(.int .i64 0),(.bool false),(.int .i64 0)]),[],(.some 8),[6,5]⟩ (.one 4 ⟨.none,(.alloc [(.int .i64 0),(.bool false),(.int .i64 0)]),[],(.some 7),[6,5]⟩ (.one 6 (p (.store 3) [(t 7),(t 73)]) (.one 7 (p (.store 3) [(t 8),(t 76)]) .done))))) (.br 4 ⟨.none,(.alloc [(.int .i64 0),(.bool false),(.int .i64 0)]),[],(.some 7),[6,5]⟩ (.br 3 ⟨.none,(.call 127),[(t 74),(t 75)],(.some 76),[6]⟩ (.one 5 ⟨.none,(.alloc [(.int .i64 0),(.bool false),(.int .i64 0)]),[],(.some 8),[6,5]⟩ (.one 6 (p (.store 3) [(t 7),(t 73)]) (.one 7 (p (.store 3) [(t 8),(t 76)]) .done))) (.one 5 ⟨.none,(.alloc [(.int .i64 0),(.bool false),(.int .i64 0)]),[],(.some 8),[6,5]⟩ (.one 3 ⟨.none,(.call 127),[(t 74),(t 75)],(.some 76),[6]⟩ (.one 6 (p (.store 3) [(t 7),(t 73)]) (.one 7 (p (.store 3) [(t 8),(t 76)]) .done))))) (.one 5 ⟨.none,(.alloc [(.int .i64 0),(.bool false),(.int .i64 0)]),[],(.some 8),[6,5]⟩ (.br 3 ⟨.none,(.call 127),[(t 74),(t 75)],(.some 76),[6]⟩ (.one 4 ⟨.none,(.alloc [(.int .i64 0),(.bool false),(.int .i64 0)]),[],(.some 7),[6,5]⟩ (.one 6 (p (.store 3) [(t 7),(t 73)]) (.one 7 (p (.store 3) [(t 8),(t 76)]) .done))) (.one 4 ⟨.none,(.alloc [(.int .i64 0),(.bool false),(.int .i64 0)]),[],(.some 7),[6,5]⟩ (.one 3 ⟨.none,(.call 127),[(t 74),(t 75)],(.some 76),[6]⟩ (.one 6 (p (.store 3) [(t 7),(t 73)]) (.one 7 (p (.store 3) [(t 8),(t 76)]) .done))))))))))) LT1) (.seq (.seq (.reg [m 0 77,q .nilck (a 77) 78,q (.faddr 10) (a 78) 79,q (.faddr 0) (a 79) 80,q (.load 1 false) (a 80) 81,q (.bin .eql .num) [(t 81),(i 64281)] 82] LT1) (.cond (t 82) (.reg [q (.load 3 true) (a 8) 83,q (.load 3 true) (a 7) 84,p (.store 3) [(t 7),(t 83)],p (.store 3) [(t 8),(t 84)]] LT1) .skip)) (.seq (.reg [m 3 85,m 3 86,q (.len false) (a 86) 87,q (.bin .sub .num) [(t 87),(i 1)] 88,m 3 89,q (.len false) (a 89) 90,q (.bin .sub .num) [(t 90),(i 1)] 91,q (.slice .vt false true true) [(t 85),(t 88),(t 91)] 92,m 3 93,m 3 94,q (.len false) (a 94) 95,q (.bin .sub .num) [(t 95),(i 1)] 96,q (.iaddr .vt) [(t 93),(t 96)] 97,q (.load 3 true) (a 97) 98,⟨.none,(.alloc [(.int .i64 0),(.bool false),(.int .i64 0)]),[],(.some 10),[3,86,87,89,90,85,88,91,94,95,93,96,97]⟩,m 92 9,p (.store 3) [(t 10),(t 98)]] LT1) (.seq (.seq (.reg [m 0 99,q .nilck (a 99) 100,q (.faddr 0) (a 100) 101,q (.faddr 0) (a 101) 102,q (.load 1 false) (a 102) 103,q (.load 3 true) (a 6) 104,q (.load 3 true) (a 5) 105,q (.call 128) [(t 103),(t 104),(t 105)] 106,q (.un .not) (a 106) 107,m 107 108,g 108 false .mov (a 0) 109,g 108 false .nilck (a 109) 110,g 108 false (.faddr 0) (a 110) 111,g 108 false (.faddr 0) (a 111) 112,g 108 false (.load 1 false) (a 112) 113,g 108 false (.load 3 true) (a 7) 114,g 108 false (.load 3 true) (a 10) 115,g 108 false (.call 128) [(t 113),(t 114),(t 115)] 116,g 108 false (.un .not) (a 116) 117,q .pick [(t 108),(c (.bool true)),(t 117)] 118] LT1) (.cond (t 118) (.seq (.reg [k (i 131) 2] LT1) .ret) .skip)) (.seq (.tree (.q 0 (m 0 119) (.q 1 (q .nilck (a 119) 120) (.q 2 (q (.faddr 9) (a 120) 121) (.q 3 (q (.load 1 false) (a 121) 122) (.q 4 (m 9 123) (.q 5 (q (.load 3 true) (a 5) 124) (.q 8 (m 9 127) (.q 9 (q (.load 3 true) (a 8) 128) (.br 6 ⟨.none,(.mkrow .vt),(a 124),(.some 125),LT6⟩ (.br 7 ⟨.none,(.append .vt),[(t 123),(t 125)],(.some 126),LT6⟩ (.one 10 ⟨.none,(.mkrow .vt),(a 128),(.some 129),LT8⟩ (.one 11 ⟨.none,(.append .vt),[(t 127),(t 129)],(.some 130),[0,119,120,121]⟩ (.one 12 (q (.call 17) [(t 122),(t 126),(t 130)] 131) (.q 13 (m 131 2) .done)))) (.one 10 ⟨.none,(.mkrow .vt),(a 128),(.some 129),LT8⟩ (.one 7 ⟨.none,(.append .vt),[(t 123),(t 125)],(.some 126),LT6⟩ (.one 11 ⟨.none,(.append .vt),[(t 127),(t 129)],(.some 130),[0,119,120,121]⟩ (.one 12 (q (.call 17) [(t 122),(t 126),(t 130)] 131) (.q 13 (m 131 2) .done)))))) (.one 10 ⟨.none,(.mkrow .vt),(a 128),(.some 129),LT8⟩ (.one 6 ⟨.none,(.mkrow .vt),(a 124),(.some 125),LT6⟩ (.one 7 ⟨.none,(.append .vt),[(t 123),(t 125)],(.some 126),LT6⟩ (.one 11 ⟨.none,(.append .vt),[(t 127),(t 129)],(.some 130),[0,119,120,121]⟩ (.one 12 (q (.call 17) [(t 122),(t 126),(t 130)] 131) (.q 13 (m 131 2) .done))))))))))))))) LT1) .ret)))))))))))),[(2,.none)],132⟩
theorem sh77 : shade S 77 LT1 [] = some F77 := by kernel_rfl
def F78 : FC KT ElT := ⟨(.seq (.reg [k (i 0) 6] LT5) (.seq (.tree (.q 0 (m 0 10) (.q 1 (q .nilck (a 10) 11) (.q 2 (q (.faddr 9) (a 11) 12) (.q 3 (q (.load 1 false) (a 12) 13) (.q 4 (m 1 14) (.br 5 ⟨.none,(.call 74),[(c (.bool true)),(t 14)],(.some 15),[0,10,11,12]⟩ (.br 6 (q (.call 54) [(t 13),(t 15)] 16) (.q 7 (m 16 9) (.q 8 (q (.extract 0) (a 9) 17) (.q 9 (q (.extract 1) (a 9) 18) (.one 10 ⟨.none,(.alloc [(.int .i64 0),(.bool false),(.int .i64 0)]),[],(.some 7),[0,10,11,12,1,16,9]⟩ (.one 11 ⟨.none,(.store 3),[(t 7),(t 17)],.none,[9]⟩ (.q 12 (m 18 8) .done)))))) (.one 10 ⟨.none,(.alloc [(.int .i64 0),(.bool false),(.int .i64 0)]),[],(.some 7),[0,10,11,12,1]⟩ (.one 6 (q (.call 54) [(t 13),(t 15)] 16) (.q 7 (m 16 9) (.q 8 (q (.extract 0) (a 9) 17) (.q 9 (q (.extract 1) (a 9) 18) (.one 11 ⟨.none,(.store 3),[(t 7),(t 17)],.none,[9]⟩ (.q 12 (m 18 8) .done)))))))) (.one 10 ⟨.none,(.alloc [(.int .i64 0),(.bool false),(.int .i64 0)]),[],(.some 7),[0,10,11,12,1]⟩ (.one 5 ⟨.none,(.call 74),[(c (.bool true)),(t 14)],(.some 15),[0,10,11,12]⟩ (.one 6 (q (.call 54) [(t 13),(t 15)] 16) (.q 7 (m 16 9) (.q 8 (q (.extract 0) (a 9) 17) (.q 9 (q (.extract 1) (a 9) 18) (.one 11 ⟨.none,(.store 3),[(t 7),(t 17)],.none,[9]⟩ (.q 12 (m 18 8) .done)))))))))))))) LT5) (.seq (.seq (.reg [m 8 19,q (.bin .neq .num) [(t 19),(i 0)] 20] LT5) (.cond (t 20) (.seq (.reg [m 8 21,m 21 6] LT5) .ret) .skip)) (.seq (.reg [m 0 22,q .nilck (a 22) 23,q (.faddr 9) (a 23) 24,q (.load 1 false) (a 24) 25,q (.faddr 0) (a 7) 26,q (.load 1 false) (a 26) 27,q (.bin .eql .num) [(t 27),(i 5)] 28,m 28 29,g 29 true (.faddr 1) (a 7) 30,g 29 true (.load 1 false) (a 30) 31,q .pick [(t 29),(t 31),(c (.bool false))] 32,m 2 33,⟨.none,(.call 74),[(t 32),(t 33)],(.some 34),[0,22,23,24]⟩,q (.call 92) [(t 25),(t 34)] 35,m 35 6] LT5) .ret)))),[(6,.none)],36⟩
theorem sh78 : shade S 78 LT5 [] = some F78 := by kernel_rfl
def F94 : FC KT ElT := ⟨(.seq (.reg [q .box (a 1) 3,k (i 0) 4] LT7) (.seq (.seq (.reg [m 0 5,q .nilck (a 5) 6,q (.faddr 4) (a 6) 7,q (.load 1 false) (a 7) 8,q (.len false) (a 8) 9,q (.bin .eql .num) [(t 9),(i 0)] 10] LT7) (.cond (t 10) (.seq (.reg [k (i 133) 4] LT7) .ret) .skip)) (.seq (.tree (.q 0 (m 0 11) (.q 1 (m 0 12) (.q 2 (q .nilck (a 12) 13) (.q 3 (q (.faddr 3) (a 13) 14) (.q 4 (q (.load 1 false) (a 14) 15) (.q 6 (q (.load 3 true) (a 3) 17) (.br 5 ⟨.none,(.call 89),(a 15),(.some 16),[0,3]⟩ (.one 7 ⟨.none,(.mkrow .vt),(a 17),(.some 18),[0,12,13,14]⟩ (.one 8 ⟨.none,(.append .vt),[(t 16),(t 18)],(.some 19),[0]⟩ (.q 9 (q .nilck (a 11) 20) (.q 10 (q (.faddr 3) (a 20) 21) (.one 11 (p (.store 1) [(t 21),(t 19)]) .done))))) (.one 7 ⟨.none,(.mkrow .vt),(a 17),(.some 18),[0,12,13,14]⟩ (.one 5 ⟨.none,(.call 89),(a 15),(.some 16),[0,3]⟩ (.one 8 ⟨.none,(.append .vt),[(t 16),(t 18)],(.some 19),[0]⟩ (.q 9 (q .nilck (a 11) 20) (.q 10 (q (.faddr 3) (a 20) 21) (.one 11 (p (.store 1) [(t 21),(t 19)]) .done))))))))))))) LT7) (.seq (.reg [k (i 0) 4] LT7) .ret)))),[(4,.none)],22⟩
theorem sh94 : shade S 94 LT7 [] = some F94 := by kernel_rfl
end Sh
end Go.Proofs.YtomdfaelgcefdaaGreatDoor
namespace Go.Proofs.YtomdfaelgcefdaaGreatDoor
open Go
namespace Sh
noncomputable def vlF (l : List El_grp) (o : Bool) (a b : El_vt) : Bool := if a.num = b.num ∧ 1 ≤ a.num ∧ a.num ≤ 7 then (if a.num = 5 then o && (hpF l a.heap b.heap && (b.null || !a.null)) else true) else false
noncomputable def okCl (l : List El_grp) : Bool := (closedF l).2 == 0
noncomputable def valB (l : List El_grp) (a b : El_vt) : Bool := vlF l (okCl l) a b
theorem c_valN (l : List El_grp) (a b : El_vt) : SpecD S 157 [.nilp,.agg (enc_vt a),.agg (enc_vt b)] [] (.bool (vlF l false a b)) [] := by
 unfold vlF;obtain ⟨an,au,ah⟩ := a;obtain ⟨bn,bu,bh⟩ := b;simp only;refine specE ok sh157 rfl ?_;(conv=>whnf);cases h1 : (an == bn)
 · have h1' : ¬ an = bn := by simpa using h1
   rw [if_neg (fun h => h1' h.1)];simp only [bne,h1];(conv=>whnf);exact eQ [] (by exact ⟨rfl,rfl⟩)
 · have h1' : an = bn := by simpa using h1
   simp only [bne,h1];(conv=>whnf);cases h2 : decide (an < 1)
   · have h2' := of_decide_eq_false h2;(conv=>whnf);cases h3 : decide (7 < an)
     · have h3' := of_decide_eq_false h3;rw [if_pos ⟨h1',by omega,by omega⟩];(conv=>whnf);cases h4 : (an == 5)
       · have h4' : ¬ an = 5 := by simpa using h4
         rw [if_neg h4'];simp only [bne,h4];(conv=>whnf);exact eQ [] (by exact ⟨rfl,rfl⟩)
       · have h4' : an = 5 := by simpa using h4
         rw [if_pos h4'];simp only [bne,h4];(conv=>whnf);exact eQ [] (by exact ⟨rfl,rfl⟩)
     · have h3' := of_decide_eq_true h3;rw [if_neg (by omega)];(conv=>whnf);exact eQ [] (by exact ⟨rfl,rfl⟩)
   · have h2' := of_decide_eq_true h2;rw [if_neg (by omega)];(conv=>whnf);exact eQ [] (by exact ⟨rfl,rfl⟩)
theorem c_valC (l : List El_grp) (hl : l.length ≤ 1048576) (hg : ∀ g ∈ l,good_grp 1048576 g) (hcz : (closedF l).2 = 0) (a b : El_vt) :
    SpecD S 157 [.ptr 0 0,.agg (enc_vt a),.agg (enc_vt b)] (ctxH l) (.bool (vlF l true a b)) (ctxH l) := by
 unfold vlF;obtain ⟨an,au,ah⟩ := a;obtain ⟨bn,bu,bh⟩ := b;have hh := c_heap l hl hg hcz ah bh;simp only;generalize hpF l ah bh = p at hh ⊢;unfold ctxH at hh ⊢;refine specE ok sh157 rfl ?_;(conv=>whnf);cases h1 : (an == bn)
 · have h1' : ¬ an = bn := by simpa using h1
   rw [if_neg (fun h => h1' h.1)];simp only [bne,h1];(conv=>whnf);exact eQ [0,1,2] (by exact ⟨rfl,rfl⟩)
 · have h1' : an = bn := by simpa using h1
   simp only [bne,h1];(conv=>whnf);cases h2 : decide (an < 1)
   · have h2' := of_decide_eq_false h2;(conv=>whnf);cases h3 : decide (7 < an)
     · have h3' := of_decide_eq_false h3;rw [if_pos ⟨h1',by omega,by omega⟩];(conv=>whnf);cases h4 : (an == 5)
       · have h4' : ¬ an = 5 := by simpa using h4
         rw [if_neg h4'];simp only [bne,h4];(conv=>whnf);exact eQ [0,1,2] (by exact ⟨rfl,rfl⟩)
       · have h4' : an = 5 := by simpa using h4
         rw [if_pos h4'];simp only [bne,h4];(conv=>whnf);refine cQ [0,1,2] hh ?_;(conv=>whnf);cases p
         · (conv=>whnf);exact eQ [0,1,2] (by exact ⟨rfl,rfl⟩)
         · (conv=>whnf);cases bu
           · (conv=>whnf);exact eQ [0,1,2] (by exact ⟨rfl,rfl⟩)
           · (conv=>whnf);exact eQ [0,1,2] (by exact ⟨rfl,rfl⟩)
     · have h3' := of_decide_eq_true h3;rw [if_neg (by omega)];(conv=>whnf);exact eQ [0,1,2] (by exact ⟨rfl,rfl⟩)
   · have h2' := of_decide_eq_true h2;rw [if_neg (by omega)];(conv=>whnf);exact eQ [0,1,2] (by exact ⟨rfl,rfl⟩)
theorem c_Val (l : List El_grp) (hl : l.length ≤ 1048576) (hg : ∀ g ∈ l,good_grp 1048576 g) (a b : El_vt) : SpecD S 128 [.imm .grp l,.agg (enc_vt a),.agg (enc_vt b)] [] (.bool (valB l a b)) [] := by
 have ho := c_opened l hl hg;have hn := c_valN l a b;have hc := c_valC l hl hg
 have e0 : ¬ (a.num = 5 ∧ b.num = 5) → valB l a b = vlF l false a b := by
  intro h;unfold valB vlF
  by_cases h1 : a.num = b.num ∧ 1 ≤ a.num ∧ a.num ≤ 7
  · rw [if_pos h1,if_pos h1]
    by_cases h2 : a.num = 5
    · exact absurd ⟨h2,by omega⟩ h
    · rw [if_neg h2,if_neg h2]
  · rw [if_neg h1,if_neg h1]
 refine specE ok sh128 rfl ?_;(conv=>whnf);cases h1 : (a.num == 5)
 · have h1' : ¬ a.num = 5 := by simpa using h1
   rw [e0 (fun h => h1' h.1)];simp only [bne,h1];(conv=>whnf);refine cQ [] hn ?_;(conv=>whnf);exact eQ [] (by exact ⟨rfl,rfl⟩)
 · have h1' : a.num = 5 := by simpa using h1
   simp only [bne,h1];(conv=>whnf);cases h2 : (b.num == 5)
   · have h2' : ¬ b.num = 5 := by simpa using h2
     rw [e0 (fun h => h2' h.2)];simp only [bne,h2];(conv=>whnf);refine cQ [] hn ?_;(conv=>whnf);exact eQ [] (by exact ⟨rfl,rfl⟩)
   · simp only [bne,h2];(conv=>whnf);unfold opR opH at ho
     by_cases hcz : (closedF l).2 = 0
     · rw [if_pos hcz,if_pos hcz] at ho;have hc := hc hcz a b;have e1 : valB l a b = vlF l true a b := by unfold valB okCl; rw [hcz]; rfl
       rw [e1];unfold ctxH at ho hc;refine cQ [] ho ?_;(conv=>whnf);refine cQ [2,3,4] hc ?_;(conv=>whnf);exact eQ [] (by exact ⟨rfl,rfl⟩)
     · rw [if_neg hcz,if_neg hcz] at ho;have e1 : valB l a b = vlF l false a b := by unfold valB okCl; rw [show ((closedF l).2 == 0) = false by simpa using hcz]
       rw [e1];refine cQ [] ho ?_;(conv=>whnf);refine cQ [] hn ?_;(conv=>whnf);exact eQ [] (by exact ⟨rfl,rfl⟩)
noncomputable def topF (l : List El_grp) (h : Int) : Int × Int := if okCl l && isF l h then (if 0 ≤ h then famF (knF l h.toNat) else famF h,0) else (0,50)
theorem c_Top (l : List El_grp) (hl : l.length ≤ 1048576) (hg : ∀ g ∈ l,good_grp 1048576 g) (h : Int) : SpecD S 126 [.imm .grp l,.int .i64 h] [] (pairV (topF l h)) [] := by
 have ho := c_opened l hl hg;have hi := c_is l h
 change SpecD S _ _ _ (.bool (isF l h)) _ at hi
 have hd : isF l h = true → -12 ≤ h ∧ h < typesN l := by unfold isF; simp
 have ht := c_top l h;unfold topF;unfold opR opH at ho
 by_cases hcz : (closedF l).2 = 0
 · rw [if_pos hcz,if_pos hcz] at ho;rw [show okCl l = true by unfold okCl; rw [hcz]; rfl];unfold ctxH at ho hi ht;generalize isF l h = p at hi hd ⊢;refine specE ok sh126 rfl ?_;(conv=>whnf);refine cQ [] ho ?_;(conv=>whnf);refine cQ [0,1,2] hi ?_;(conv=>whnf);cases p
   · (conv=>whnf);exact eQ [] (by exact ⟨rfl,rfl⟩)
   · have hd := hd rfl;have ht := ht hd.1 hd.2;(conv=>whnf);refine cQ [0,1,2] ht ?_;(conv=>whnf);exact eQ [] (by exact ⟨rfl,rfl⟩)
 · rw [if_neg hcz,if_neg hcz] at ho;rw [show okCl l = false by unfold okCl; simpa using hcz];refine specE ok sh126 rfl ?_;(conv=>whnf);refine cQ [] ho ?_;(conv=>whnf);exact eQ [] (by exact ⟨rfl,rfl⟩)
def diffF (a b : El_vt) : El_vt := ⟨a.num,a.null && !b.null,a.heap⟩
theorem c_Diff (a b : El_vt) : SpecD S 127 [.agg (enc_vt a),.agg (enc_vt b)] [] (.agg (enc_vt (diffF a b))) [] := by
 obtain ⟨an,au,ah⟩ := a;obtain ⟨bn,bu,bh⟩ := b;refine specE ok sh127 rfl ?_;(conv=>whnf);cases au
 all_goals
  (conv=>whnf);try (refine ⟨by trivial,?_⟩;conv=>whnf)
  exact eQ [] (by exact ⟨rfl,rfl⟩)
def unpF (v : El_vt) : El_vt := if v.num = 6 ∨ v.num = 7 then ⟨1,false,0⟩ else v
theorem c_Unpack (v : El_vt) : SpecD S 120 [.agg (enc_vt v)] [] (.agg (enc_vt (unpF v))) [] := by
 unfold unpF;obtain ⟨an,au,ah⟩ := v;simp only;refine specE ok sh120 rfl ?_;(conv=>whnf);cases h1 : (an == 6)
 · have h1' : ¬ an = 6 := by simpa using h1
   (conv=>whnf);cases h2 : (an == 7)
   · have h2' : ¬ an = 7 := by simpa using h2
     rw [if_neg (by omega)];(conv=>whnf);exact eQ [] (by exact ⟨rfl,rfl⟩)
   · have h2' : an = 7 := by simpa using h2
     rw [if_pos (.inr h2')];(conv=>whnf);exact eQ [] (by exact ⟨rfl,rfl⟩)
 · have h1' : an = 6 := by simpa using h1
   rw [if_pos (.inl h1')];(conv=>whnf);exact eQ [] (by exact ⟨rfl,rfl⟩)
def dfl (v : El_vt) : Bool := if v.num = 5 then v.null else decide (1 ≤ v.num ∧ v.num ≤ 7)
theorem c_dflT (v : El_vt) : SpecD S 62 [.agg (enc_vt v)] [] (.bool (dfl v)) [] := by
 obtain ⟨a,b,c⟩ := v;refine specE ok sh62 rfl ?_;conv=>whnf
 rcases h : (a == 5) with _ | _
 · have h5 : ¬ a = 5 := by simpa using h
   (conv=>whnf);cases h1 : decide (1 ≤ a)
   · (conv=>whnf);refine eQ [] ⟨?_,rfl⟩;have := of_decide_eq_false h1;show AV.bool false = AV.bool (if a = 5 then b else decide (1 ≤ a ∧ a ≤ 7));rw [if_neg h5,decide_eq_false (by omega)]
   · (conv=>whnf);refine eQ [] ⟨?_,rfl⟩;have := of_decide_eq_true h1;show AV.bool (decide (a ≤ 7)) = AV.bool (if a = 5 then b else decide (1 ≤ a ∧ a ≤ 7));rw [if_neg h5]
     congr 1
     simp [this]
 · have h5 : a = 5 := by simpa using h
   subst h5;(conv=>whnf);refine eQ [] ⟨rfl,rfl⟩
def atG : Nat → List El_grp → Int → Option (El_sub × Nat × Int)
 | _,[],_ => none
 | i,g :: r,n => if n < ((g.types.getD []).length : Nat) then some ((g.types.getD []).getD n.toNat (zeroT .sub),i,n) else atG (i + 1) r (n - ((g.types.getD []).length : Nat))
def atF (l : List El_grp) (n : Int) : Option (El_sub × Nat × Int) := if 0 ≤ n then atG 0 l n else none
def atV : Option (El_sub × Nat × Int) → V
 | some (s,g,n) => .tup [.agg (enc_sub s),.int .i64 g,.int .i64 n,.int .i64 0]
 | none => .tup [.agg (enc_sub (zeroT .sub)),.int .i64 0,.int .i64 0,.int .i64 50]
theorem atG_succ {l : List El_grp} {i j : Nat} {n : Int} {g : El_grp} (h : l[j]? = some g) : atG i (l.drop j) n = if n < ((g.types.getD []).length : Nat) then some ((g.types.getD []).getD n.toNat (zeroT .sub),i,n) else atG (i + 1) (l.drop (j + 1)) (n - ((g.types.getD []).length : Nat)) := by
 have hj := (List.getElem?_eq_some_iff.1 h).1;have hv := (List.getElem?_eq_some_iff.1 h).2;rw [List.drop_eq_getElem_cons hj,hv,atG]
def atW (l : List El_grp) (n : Int) (j : Int) : List V := [.int .i64 n,.ptr 0 0,.imm .grp l,.int .i64 l.length,.int .i64 j]
theorem c_At (l : List El_grp) (hl : l.length ≤ 1048576) (hg : ∀ g ∈ l,good_grp 1048576 g) (n : Int) (hn : n ≤ 4294967295) :
    SpecD S 150 [.imm .grp l,.int .i64 n] [] (atV (atF l n)) [] := by
 unfold atF;refine specE ok sh150 rfl ?_;(conv=>whnf);cases h0 : decide (0 ≤ n)
 · have h0' := of_decide_eq_false h0;rw [if_neg h0'];(conv=>whnf);exact eQ [] (by exact ⟨rfl,rfl⟩)
 have h0' := of_decide_eq_true h0;rw [if_pos h0'];conv=>whnf
 refine loop_of [] [0] (fun vs H => ∃ (j : Nat) (k : Int),j ≤ l.length ∧ 0 ≤ k ∧ k ≤ 4294967295 ∧ atG 0 l n = atG j (l.drop j) k ∧ vs = atW l k j ∧ H = [.cells (enc_sub (zeroT .sub))])
  (fun vs _ => match vs with | [_,_,_,_,.int _ j] => l.length - j.toNat | _ => 0) (by rfl) (by rfl) (by rfl) (by rfl) ⟨0,n,Nat.zero_le _,h0',hn,rfl,rfl,rfl⟩ ?_
 rintro vs H1 ⟨j,k,hj,hk0,hk1,hF,rfl,rfl⟩;(conv=>whnf);cases hd : decide ((j : Int) < l.length)
 · (conv=>whnf);have := of_decide_eq_false hd;obtain rfl : j = l.length := by omega
   rw [List.drop_length] at hF;refine eQ [] ⟨?_,rfl⟩;rw [hF];rfl
 (conv=>whnf);have hjl := of_decide_eq_true hd;have hw : IntKind.i64.wrap ((j : Int) + 1) = ((j + 1 : Nat) : Int) := wrap_i64 (by omega) (by omega);refine ⟨rfl,by omega,by omega,?_⟩;(conv=>whnf);refine ⟨by omega,(by decide : 0 + 2 ≤ 2),?_⟩;rw [show l.getD (Int.toNat (j : Int)) (S.zero .grp) = l.getD j (S.zero .grp) by rw [Int.toNat_natCast]];have hx := getD_at (show j < l.length by omega) (S.zero .grp);have hgx := hg _ (List.mem_of_getElem? hx);have hF2 := atG_succ (i := j) (n := k) hx;generalize l.getD j (S.zero .grp) = g at hx hgx hF2;obtain ⟨ty,ex⟩ := g;obtain ⟨t,ht0,htl,htg⟩ := hgx;simp only at ht0;subst ht0;simp only [Option.getD_some] at hF2;rw [hF2] at hF;clear hF2;(conv=>whnf);cases hd2 : decide (k < (t.length : Int))
 · have hd2' := of_decide_eq_false hd2;rw [if_neg hd2'] at hF;have hw2 : IntKind.i64.wrap (k - (t.length : Int)) = k - (t.length : Int) := wrap_i64 (by omega) (by omega);(conv=>whnf);refine ⟨[0],[],relo_of [0] (by rfl) (by rfl),?_⟩;refine ⟨⟨j + 1,k - (t.length : Int),by omega,by omega,by omega,hF,?_,rfl⟩,?_⟩
   · show [AV.int .i64 (IntKind.i64.wrap (k - (t.length : Int))),.ptr 0 0,.imm .grp l,.int .i64 l.length,.int .i64 (IntKind.i64.wrap ((j : Int) + 1))] = atW l (k - (t.length : Int)) ((j + 1 : Nat) : Int);rw [hw2,hw];rfl
   · show l.length - (IntKind.i64.wrap ((j : Int) + 1)).toNat < l.length - (j : Int).toNat;rw [hw]; omega
 · have hd2' := of_decide_eq_true hd2;rw [if_pos hd2'] at hF;have hxs := getD_at (show k.toNat < t.length by omega) (S.zero .sub);have hgs := htg _ (List.mem_of_getElem? hxs);(conv=>whnf);refine ⟨rfl,hk0,by omega,?_⟩;(conv=>whnf);refine ⟨by omega,(by decide : 0 + 6 ≤ 6),?_⟩;rw [hF]
   change _ = some (t.getD k.toNat (zeroT .sub)) at hxs
   change good_sub 1048576 (t.getD k.toNat (zeroT .sub)) at hgs
   rw [show t.getD k.toNat (S.zero .sub) = t.getD k.toNat (zeroT .sub) from rfl];generalize t.getD k.toNat (zeroT .sub) = s at hxs hgs;have hc := c_att s hgs;obtain ⟨fi,sa,sk,sp,sr,sf⟩ := s;obtain ⟨⟨a,ha0,hal,hag⟩,hk,⟨p,hp0,hpl,hpg⟩,⟨r,hr0,hrl,hrg⟩,⟨f,hf0,hfl,hfg⟩⟩ := hgs;simp only at ha0 hk hp0 hr0 hf0;subst ha0 hp0 hr0 hf0;(conv=>whnf);refine cQ [] hc ?_;(conv=>whnf);exact eQ [] (by exact ⟨rfl,rfl⟩)
end Sh
end Go.Proofs.YtomdfaelgcefdaaGreatDoor
namespace Go.Proofs.YtomdfaelgcefdaaGreatDoor
open Go
namespace Sh
namespace Ck
theorem drop_take {α : Type} (l : List α) : (l.drop 0).take l.length = l := by simp
theorem cp_vt (l : List (ElT .vt)) (z : ElT .vt) : (List.replicate l.length z).take 0 ++ l.take l.length ++ (List.replicate l.length z).drop (0 + min l.length l.length) = l := by simp
theorem c_cpI_vt (l : List (ElT .vt)) (hl : l.length ≤ 1048576) : SpecD S 51 [.imm .vt l] [] (.imm .vt l) [] := by
 refine specE ok sh51 rfl ?_;(conv=>whnf);refine ⟨by omega,rfl,⟨by unfold maxLen; omega,by simp [S]; omega⟩,?_⟩;(conv=>whnf);refine ⟨rfl,by simp,?_⟩;rw [Int.toNat_natCast,cp_vt];(conv=>whnf);refine endL_of [] [0] (by rfl) (by rfl) (by rfl) trivial ⟨rfl,by simp⟩ ⟨?_,rfl⟩;show (AV.imm .vt ((l.drop 0).take l.length) : V) = _;rw [drop_take]
theorem c_cpO_vt (l : List (ElT .vt)) (hl : l.length ≤ 1048576) : SpecD S 51 [.imm .vt l] [] (.own .vt 0 0 l.length .whole) [.row .vt l] := by
 refine specE ok sh51 rfl ?_;(conv=>whnf);refine ⟨by omega,rfl,⟨by unfold maxLen; omega,by simp [S]; omega⟩,?_⟩;(conv=>whnf);refine ⟨rfl,by simp,?_⟩;rw [Int.toNat_natCast,cp_vt];(conv=>whnf);exact eQ [0] (by exact ⟨rfl,rfl⟩)
theorem cp_int (l : List (ElT .int)) (z : ElT .int) : (List.replicate l.length z).take 0 ++ l.take l.length ++ (List.replicate l.length z).drop (0 + min l.length l.length) = l := by simp
theorem c_cpI_int (l : List (ElT .int)) (hl : l.length ≤ 1048576) : SpecD S 109 [.imm .int l] [] (.imm .int l) [] := by
 refine specE ok sh109 rfl ?_;(conv=>whnf);refine ⟨by omega,rfl,⟨by unfold maxLen; omega,by simp [S]; omega⟩,?_⟩;(conv=>whnf);refine ⟨rfl,by simp,?_⟩;rw [Int.toNat_natCast,cp_int];(conv=>whnf);refine endL_of [] [0] (by rfl) (by rfl) (by rfl) trivial ⟨rfl,by simp⟩ ⟨?_,rfl⟩;show (AV.imm .int ((l.drop 0).take l.length) : V) = _;rw [drop_take]
theorem cp_fld (l : List (ElT .fld)) (z : ElT .fld) : (List.replicate l.length z).take 0 ++ l.take l.length ++ (List.replicate l.length z).drop (0 + min l.length l.length) = l := by simp
theorem c_cpI_fld (l : List (ElT .fld)) (hl : l.length ≤ 1048576) : SpecD S 110 [.imm .fld l] [] (.imm .fld l) [] := by
 refine specE ok sh110 rfl ?_;(conv=>whnf);refine ⟨by omega,rfl,⟨by unfold maxLen; omega,by simp [S]; omega⟩,?_⟩;(conv=>whnf);refine ⟨rfl,by simp,?_⟩;rw [Int.toNat_natCast,cp_fld];(conv=>whnf);refine endL_of [] [0] (by rfl) (by rfl) (by rfl) trivial ⟨rfl,by simp⟩ ⟨?_,rfl⟩;show (AV.imm .fld ((l.drop 0).take l.length) : V) = _;rw [drop_take]
theorem cp_sub (l : List (ElT .sub)) (z : ElT .sub) : (List.replicate l.length z).take 0 ++ l.take l.length ++ (List.replicate l.length z).drop (0 + min l.length l.length) = l := by simp
theorem c_cpO_sub (l : List (ElT .sub)) (hl : l.length ≤ 1048576) : SpecD S 108 [.imm .sub l] [] (.own .sub 0 0 l.length .whole) [.row .sub l] := by
 refine specE ok sh108 rfl ?_;(conv=>whnf);refine ⟨by omega,rfl,⟨by unfold maxLen; omega,by simp [S]; omega⟩,?_⟩;(conv=>whnf);refine ⟨rfl,by simp,?_⟩;rw [Int.toNat_natCast,cp_sub];(conv=>whnf);exact eQ [0] (by exact ⟨rfl,rfl⟩)
theorem cp_grp (l : List (ElT .grp)) (z : ElT .grp) : (List.replicate l.length z).take 0 ++ l.take l.length ++ (List.replicate l.length z).drop (0 + min l.length l.length) = l := by simp
theorem c_cpO_grp (l : List (ElT .grp)) (hl : l.length ≤ 1048576) : SpecD S 107 [.imm .grp l] [] (.own .grp 0 0 l.length .whole) [.row .grp l] := by
 refine specE ok sh107 rfl ?_;(conv=>whnf);refine ⟨by omega,rfl,⟨by unfold maxLen; omega,by simp [S]; omega⟩,?_⟩;(conv=>whnf);refine ⟨rfl,by simp,?_⟩;rw [Int.toNat_natCast,cp_grp];(conv=>whnf);exact eQ [0] (by exact ⟨rfl,rfl⟩)
end Ck
end Sh
end Go.Proofs.YtomdfaelgcefdaaGreatDoor
namespace Go.Proofs.YtomdfaelgcefdaaGreatDoor
open Go
namespace Sh
namespace Ck
def kpV (l : List El_grp) (j : Int) : List V := [.own .grp 0 0 l.length .whole,.int .i64 l.length,.int .i64 j]
def kpW (l : List El_grp) (i j m k : Int) : List V := [.own .grp 0 0 l.length .whole,.int .i64 i,.int .i64 l.length,.int .i64 j,.int .i64 m,.int .i64 k]
def kpI (l : List El_grp) (vs : List V) (H : Heap KT ElT) : Prop :=
 ∃ j : Nat,j ≤ l.length ∧ vs = kpV l j ∧ ((j < l.length ∧ H = [.rowx .grp l j (S.enc .grp (l.getD j (S.zero .grp)))]) ∨ (j = l.length ∧ H = [.row .grp l]))
theorem kp_next (l : List El_grp) (j : Nat) (hj : j ≤ l.length) : ∃ H3,HGh S [AO.row .grp l] H3 ∧ kpI l (kpV l j) H3 := by
 rcases Nat.lt_or_ge j l.length with h | h
 · exact ⟨_,.openx 0 j .grp l rfl h (.refl _),j,hj,rfl,.inl ⟨h,rfl⟩⟩
 · exact ⟨_,.refl _,j,hj,rfl,.inr ⟨by omega,rfl⟩⟩
theorem set_same {α : Type} {l : List α} {j : Nat} {x : α} (h : l[j]? = some x) : l.set j x = l := by
 obtain ⟨h1,h2⟩ := List.getElem?_eq_some_iff.1 h;rw [← h2]; exact List.set_getElem_self h1
theorem c_keep (l : List El_grp) (hl : l.length ≤ 1048576) (hg : ∀ g ∈ l,good_grp 1048576 g) : SpecD S 61 [.imm .grp l] [] (.imm .grp l) [] := by
 obtain ⟨H3,hx,hi⟩ := kp_next l 0 (Nat.zero_le _);refine specE ok sh61 rfl ?_;(conv=>whnf);refine cQ [] (c_cpO_grp l hl) ?_;(conv=>whnf);refine loopX_of (H' := [AO.row .grp l]) (H3 := H3) [] [0] [] (kpI l) (fun vs _ => match vs with | [_,_,.int _ j] => l.length - j.toNat | _ => 0) (by rfl) (by rfl) (relo_of [0] (by rfl) (by rfl)) hx ?_ ?_
 · exact hi
 clear hi hx H3;rintro vs H1 ⟨j,hj,rfl,⟨hlt,rfl⟩ | ⟨rfl,rfl⟩⟩
 rotate_left
 · (conv=>whnf);cases hd : decide ((l.length : Int) < l.length)
   rotate_left
   · have := of_decide_eq_true hd;omega
   (conv=>whnf);refine endL_of [] [0] (by rfl) (by rfl) (by rfl) trivial ⟨rfl,by simp⟩ ⟨?_,rfl⟩;show (AV.imm .grp ((l.drop 0).take l.length) : V) = _;rw [drop_take]
 have hlj := getD_at hlt (S.zero .grp);have hgy := hg _ (List.mem_of_getElem? hlj);generalize l.getD j (S.zero .grp) = y at hlj hgy;obtain ⟨ty,ex⟩ := y;obtain ⟨ys,hys,hyl,hyg⟩ := hgy;simp only at hys;subst hys;have hw1 : IntKind.i64.wrap ((j : Int) + 1) = ((j + 1 : Nat) : Int) := wrap_i64 (by omega) (by omega);(conv=>whnf);cases hd : decide ((j : Int) < l.length)
 · have := of_decide_eq_false hd;omega
 (conv=>whnf);refine ⟨rfl,by omega,by omega,?_⟩;(conv=>whnf);refine ⟨rfl,by simp,(by decide : 0 + 1 ≤ 2),?_⟩;(conv=>whnf);refine cQ [] (c_cpO_sub ys hyl) ?_;(conv=>whnf);refine ⟨rfl,by omega,by omega,?_⟩;(conv=>whnf);refine ⟨rfl,by simp,(by decide : 0 + 1 ≤ 2),?_⟩;(conv=>whnf);refine ⟨rfl,by omega,by omega,?_⟩;(conv=>whnf);refine ⟨rfl,by simp,(by decide : 0 + 1 ≤ 2),?_⟩;conv=>whnf
 refine loop_of [] [0,1] (fun vs H => ∃ k : Nat,k ≤ ys.length ∧ vs = kpW l j j ys.length k ∧ H = [.rowx .grp l j [.own .sub 1 0 ys.length .whole,.bool ex],.row .sub ys])
  (fun vs _ => match vs with | [_,_,_,_,_,.int _ k] => ys.length - k.toNat | _ => 0) (by rfl) (by rfl) (by rfl) (by rfl) ⟨0,Nat.zero_le _,rfl,rfl⟩ ?_
 rintro vs H1 ⟨k,hk,rfl,rfl⟩;(conv=>whnf);cases hd2 : decide ((k : Int) < ys.length)
 · (conv=>whnf);obtain ⟨H3,hx,hi⟩ := kp_next l (j + 1) hlt;refine ⟨[0],[1],reloL_of [0] [1] (by rfl) (by rfl) ⟨⟨⟨rfl,by simp⟩,trivial,trivial⟩,trivial⟩ ⟨trivial,trivial,trivial,trivial⟩,H3,?_,?_,?_⟩
   · refine HGh.closex 0 j .grp l [.imm .sub ((ys.drop 0).take ys.length),.bool ex] ⟨some ys,ex⟩ rfl (by rw [drop_take]; rfl) ?_;show HGh S [AO.row .grp (l.set j ⟨some ys,ex⟩)] H3;rw [set_same hlj];exact hx
   · rw [← hw1] at hi;exact hi
   · show l.length - (IntKind.i64.wrap ((j : Int) + 1)).toNat < l.length - (j : Int).toNat;rw [hw1]; omega
 (conv=>whnf);have hk2 := of_decide_eq_true hd2;have hlk := getD_at (show k < ys.length by omega) (S.zero .sub);have hgz := hyg _ (List.mem_of_getElem? hlk);have hz : ys.getD (0 + Int.toNat (k : Int)) (S.zero .sub) = ys.getD k (S.zero .sub) := by rw [Nat.zero_add,Int.toNat_natCast]
 have hst := set_same hlk;generalize ys.getD k (S.zero .sub) = z at hlk hgz hz hst;rw [show k = 0 + Int.toNat (k : Int) by rw [Nat.zero_add,Int.toNat_natCast]] at hst;obtain ⟨fi,su,ki,pa,re,fs⟩ := z;obtain ⟨⟨s1,hs1,hs2,_⟩,_,⟨p1,hp1,hp2,_⟩,⟨r1,hr1,hr2,_⟩,⟨f1,hf1,hf2,_⟩⟩ := hgz;simp only at hs1 hp1 hr1 hf1;subst hs1; subst hp1; subst hr1; subst hf1;refine ⟨rfl,by omega,by omega,?_⟩;(conv=>whnf);refine ⟨rfl,by simp,(by decide : 0 + 1 ≤ 2),?_⟩;(conv=>whnf);refine ⟨rfl,by omega,by omega,?_⟩;(conv=>whnf);refine ⟨rfl,by omega,(by decide : 1 + 1 ≤ 6),?_⟩;rw [hz];(conv=>whnf);refine cQ [] (c_cpI_int s1 hs2) ?_;(conv=>whnf);refine ⟨rfl,by omega,(by decide : 1 + 1 ≤ 6),?_⟩;rw [hz];(conv=>whnf);rw [hst];refine ⟨rfl,by omega,(by decide : 3 + 1 ≤ 6),?_⟩;rw [hz];(conv=>whnf);refine ⟨rfl,by omega,(by decide : 4 + 1 ≤ 6),?_⟩;rw [hz];(conv=>whnf);refine ⟨rfl,by omega,(by decide : 5 + 1 ≤ 6),?_⟩;rw [hz];(conv=>whnf);refine cQ [] (c_cpI_vt p1 hp2) ?_;(conv=>whnf);refine tQ ?_;(conv=>whnf);refine cQ [] (c_cpI_vt r1 hr2) ?_;(conv=>whnf);refine tQ ?_;(conv=>whnf);refine cQ [] (c_cpI_fld f1 hf2) ?_;(conv=>whnf);refine tQ ?_;(conv=>whnf);refine ⟨rfl,by omega,(by decide : 3 + 1 ≤ 6),?_⟩;rw [hz];(conv=>whnf);rw [hst];refine tQ ?_;(conv=>whnf);refine ⟨rfl,by omega,(by decide : 4 + 1 ≤ 6),?_⟩;rw [hz];(conv=>whnf);rw [hst];refine tQ ?_;(conv=>whnf);refine ⟨rfl,by omega,(by decide : 5 + 1 ≤ 6),?_⟩;rw [hz];(conv=>whnf);rw [hst];have hw2 : IntKind.i64.wrap ((k : Int) + 1) = ((k + 1 : Nat) : Int) := wrap_i64 (by omega) (by omega);refine ⟨[0,1],[],relo_of [0,1] (by rfl) (by rfl),?_⟩;refine ⟨⟨k + 1,by omega,congrArg (kpW l j j ys.length) hw2,rfl⟩,?_⟩;show ys.length - (IntKind.i64.wrap ((k : Int) + 1)).toNat < ys.length - (k : Int).toNat;rw [hw2]; omega
end Ck
end Sh
end Go.Proofs.YtomdfaelgcefdaaGreatDoor
namespace Go.Proofs.YtomdfaelgcefdaaGreatDoor
open Go
namespace Sh
namespace Ck
def zvt : El_vt := ⟨0,false,0⟩
def ckC (l : List El_grp) (nl ns nr : Nat) (O F : V) : AO KT ElT := .cells [.bool true,.imm .grp l,.own .vt 1 0 nl .whole,.own .bool 2 0 ns .whole,.own .vt 3 0 nr .whole,O,F]
def ck (l : List El_grp) (lo : List El_vt) (se : List Bool) (re : List El_vt) (m : Nat) (C : Cp) (op : List El_vt) (fr : List El_frame) : Heap KT ElT :=
 [ckC l lo.length se.length re.length (.own .vt 4 0 m C) (.own .frame 5 0 fr.length .whole),.row .vt lo,.row .bool se,.row .vt re,.row .vt op,.row .frame fr]
def ckB (l : List El_grp) (lo : List El_vt) (se : List Bool) (re : List El_vt) (X : AO KT ElT) (m : Nat) (C : Cp) (op : List El_vt) (fr : List El_frame) : Heap KT ElT :=
 [ckC l lo.length se.length re.length (.own .vt 6 0 m C) (.own .frame 5 0 fr.length .whole),.row .vt lo,.row .bool se,.row .vt re,X,.row .frame fr,.row .vt op]
def okR (l : List El_grp) (lo : List El_vt) (se : List Bool) (re : List El_vt) (fr : List El_frame) (rv : V) (ops : List El_vt) (r : V) (H : Heap KT ElT) : Prop :=
 r = rv ∧ ∃ m C op,m ≤ op.length ∧ C ≠ .unk ∧ op.take m = ops ∧ H = ckB l lo se re .gone m C op fr
def okA (l : List El_grp) (lo : List El_vt) (se : List Bool) (re : List El_vt) (fr : List El_frame) (rv : V) (ops : List El_vt) (r : V) (H : Heap KT ElT) : Prop :=
 r = rv ∧ ∃ m C op,m ≤ op.length ∧ C ≠ .unk ∧ op.take m = ops ∧ (H = ck l lo se re m C op fr ∨ ∃ X,H = ckB l lo se re X m C op fr)
theorem fadesB {l : List El_grp} {lo : List El_vt} {se : List Bool} {re : List El_vt} {X : AO KT ElT} {m : Nat} {C : Cp} {op : List El_vt} {fr : List El_frame} : Fades (ckB l lo se re X m C op fr) (ckB l lo se re .gone m C op fr) := ⟨rfl,fun i o h => by
 match i,h with
 | 0,h => exact .inr h
 | 1,h => exact .inr h
 | 2,h => exact .inr h
 | 3,h => exact .inr h
 | 4,h => cases h; exact .inl rfl
 | 5,h => exact .inr h
 | 6,h => exact .inr h⟩
variable {l : List El_grp} {lo : List El_vt} {se : List Bool} {re : List El_vt} {op : List El_vt} {fr : List El_frame} {m : Nat} {C : Cp}
theorem okR_of {f : Nat} {vs : List V} {rv : V} {ops : List El_vt} (hid : vs.map (loc2 (ck l lo se re m C op fr) [0,1,2,3,4,5] []) = vs) (hrv : ∀ H js,loc H js [] rv = rv)
    (h : Spec S f vs (ck l lo se re m C op fr) (okA l lo se re fr rv ops)) : Spec S f vs (ck l lo se re m C op fr) (okR l lo se re fr rv ops) := by
 have h2 : Spec S f vs (ck l lo se re m C op fr) (fun r H => r = rv ∧ ∃ m C op,m ≤ op.length ∧ C ≠ .unk ∧ op.take m = ops ∧ (H = ck l lo se re m C op fr ∨ H = ckB l lo se re .gone m C op fr)) := by
  refine Spec.fade h ?_;rintro r H' ⟨rfl,m,C,op,h1,h2,h3,rfl | ⟨X,rfl⟩⟩
  · exact ⟨_,⟨rfl,fun i o h => .inr h⟩,rfl,m,C,op,h1,h2,h3,.inl rfl⟩
  · exact ⟨_,fadesB,rfl,m,C,op,h1,h2,h3,.inr rfl⟩
 refine Spec.relo ok [0,1,2,3,4,5] [] (by rfl) (okT_nil _ _ _) (okH_nil _ _ _) (by rw [hid]; exact h2) ?_;rintro r H' ⟨rfl,m,C,op,h1,h2,h3,rfl | rfl⟩
 · exact ⟨1,[0,1,2,3,6,5,4],rfl,rfl,hrv _ _,m,C,op,h1,h2,h3,rfl⟩
 · exact ⟨0,[0,1,2,3,4,5,6],rfl,rfl,hrv _ _,m,C,op,h1,h2,h3,rfl⟩
theorem c_none : SpecD S 50 [.ptr 0 0] (ck l lo se re m C op fr) (.bool false) (ck l lo se re m C op fr) := by
 cases C
 all_goals
  refine specE ok sh50 rfl ?_;(conv=>whnf);exact eQ [0,1,2,3,4,5] (by exact ⟨rfl,rfl⟩)
theorem c_sizeV : SpecD S 57 [.ptr 0 5] (ck l lo se re m C op fr) (.int .i64 m) (ck l lo se re m C op fr) := by
 cases C
 all_goals
  refine specE ok sh57 rfl ?_;(conv=>whnf);exact eQ [0,1,2,3,4,5] (by exact ⟨rfl,rfl⟩)
theorem c_sizeF : SpecD S 52 [.ptr 0 6] (ck l lo se re m C op fr) (.int .i64 fr.length) (ck l lo se re m C op fr) := by
 cases C
 all_goals
  refine specE ok sh52 rfl ?_;(conv=>whnf);exact eQ [0,1,2,3,4,5] (by exact ⟨rfl,rfl⟩)
theorem c_shut (hf : 0 < fr.length) : SpecD S 53 [.ptr 0 0] (ck l lo se re m C op fr) (.int .i64 0) (ck l lo se re m C op fr) := by
 cases C
 all_goals
  refine specE ok sh53 rfl ?_;(conv=>whnf);refine cQ [0,1,2,3,4,5] c_none ?_;(conv=>whnf);refine cQ [0,1,2,3,4,5] c_sizeF ?_;(conv=>whnf);cases h : ((fr.length : Int) == 0)
  · (conv=>whnf);exact eQ [0,1,2,3,4,5] (by exact ⟨rfl,rfl⟩)
  · have : (fr.length : Int) = 0 := by simpa using h
    omega
theorem c_top (fs : List El_frame) (f : El_frame) (hf : fs.length ≤ 4000000) : SpecD S 59 [.ptr 0 6] (ck l lo se re m C op (fs ++ [f])) (.eptr .frame 5 fs.length 0) (ck l lo se re m C op (fs ++ [f])) := by
 have e : (fs ++ [f]).length = fs.length + 1 := by simp
 have hw : IntKind.i64.wrap (((fs ++ [f]).length : Int) - 1) = (fs.length : Int) := by rw [e,wrap_i64 (by omega) (by omega)]; omega
 cases C
 all_goals
  refine specE ok sh59 rfl ?_;(conv=>whnf);rw [hw];refine ⟨rfl,by omega,by omega,?_⟩;rw [show 0 + Int.toNat (fs.length : Int) = fs.length by rw [Nat.zero_add,Int.toNat_natCast]];(conv=>whnf);exact eQ [0,1,2,3,4,5] (by exact ⟨rfl,rfl⟩)
theorem c_cutV (n : Nat) (hn : n ≤ m) : SpecD S 113 [.ptr 0 5,.int .i64 n] (ck l lo se re m C op fr) (.tup []) (ck l lo se re n .full op fr) := by
 cases C
 all_goals
  refine specE ok sh113 rfl ?_;(conv=>whnf);refine ⟨rfl,by omega,by omega,by omega,rfl,?_⟩;rw [show ((n : Int).toNat - Int.toNat 0) = n by simp,show (0 + Int.toNat 0) = 0 by rfl];(conv=>whnf);exact eQ [0,1,2,3,4,5] (by exact ⟨rfl,rfl⟩)
theorem c_topV (hm : 0 < m) (_hm2 : m ≤ op.length) (hm3 : m ≤ 4000000000) : SpecD S 145 [.ptr 0 5] (ck l lo se re m C op fr) (.eptr .vt 4 (m - 1) 0) (ck l lo se re m C op fr) := by
 have hw : IntKind.i64.wrap ((m : Int) - 1) = ((m - 1 : Nat) : Int) := by rw [wrap_i64 (by omega) (by omega)]; omega
 cases C
 all_goals
  refine specE ok sh145 rfl ?_;(conv=>whnf);rw [hw];refine ⟨rfl,by omega,by omega,?_⟩;rw [show 0 + Int.toNat ((m - 1 : Nat) : Int) = m - 1 by rw [Nat.zero_add,Int.toNat_natCast]];(conv=>whnf);exact eQ [0,1,2,3,4,5] (by exact ⟨rfl,rfl⟩)
theorem c_pushV (v : El_vt) (hC : C ≠ .unk) (hm : m ≤ op.length) (hl : m ≤ 40000000) : Spec S 106 [.ptr 0 5,.agg (enc_vt v)] (ck l lo se re m C op fr) (okR l lo se re fr (.tup []) (op.take m ++ [v])) := by
 refine okR_of rfl (fun _ _ => rfl) ?_;have e1 : (op.take m ++ [v]).length = m + 1 := by simp; omega
 have e2 : (op.take m ++ [v]).take (m + 1) = op.take m ++ [v] := by rw [← e1,List.take_length]
 cases C with
 | unk => exact absurd rfl hC
 | whole =>
  refine specE ok sh106 rfl ?_;(conv=>whnf);refine tQ ?_;(conv=>whnf);refine ⟨rfl,by simp,?_⟩;(conv=>whnf);refine ⟨rfl,by simp; omega,fits_big (by show m + 1 ≤ _; omega) (by decide),rfl,?_⟩;(conv=>whnf);refine tQ ?_;(conv=>whnf);exact eQ [0,1,2,3,4,5,8] ⟨rfl,m + 1,.whole,op.take m ++ [v],by omega,by decide,e2,.inr ⟨.gone,rfl⟩⟩
 | full =>
  refine specE ok sh106 rfl ?_;(conv=>whnf);refine tQ ?_;(conv=>whnf);refine ⟨rfl,by simp,?_⟩;(conv=>whnf);refine ⟨rfl,by simp; omega,fits_big (by show m + 1 ≤ _; omega) (by decide),by simp,?_⟩;(conv=>whnf);refine tQ ?_;(conv=>whnf);exact eQ [0,1,2,3,4,5,8] ⟨rfl,m + 1,.whole,op.take m ++ [v],by omega,by decide,e2,.inr ⟨.row .vt op,rfl⟩⟩
end Ck
end Sh
end Go.Proofs.YtomdfaelgcefdaaGreatDoor
namespace Go.Proofs.YtomdfaelgcefdaaGreatDoor
open Go
namespace Sh
namespace Ck
def popL (h : Nat) (d : Bool) (ops : List El_vt) : El_vt × Int × List El_vt := if h < ops.length then (ops.getD (ops.length - 1) zvt,0,ops.take (ops.length - 1)) else if d then (zvt,0,ops) else (zvt,130,ops)
noncomputable def mtF (l : List El_grp) (a b : El_vt) : Bool := a.num == 0 || (b.num == 0 || valB l a b)
noncomputable def popT (l : List El_grp) (h : Nat) (d : Bool) (ops : List El_vt) (v : El_vt) : El_vt × Int × List El_vt :=
 if (popL h d ops).2.1 = 0 then (if mtF l (popL h d ops).1 v then popL h d ops else (zvt,131,ops)) else popL h d ops
noncomputable def popsR (l : List El_grp) (h : Nat) (d : Bool) (ops0 : List El_vt) : List El_vt → List El_vt → Int × List El_vt
 | [],ops => (0,ops)
 | v :: r,ops => if (popT l h d ops v).2.1 = 0 then popsR l h d ops0 r (popT l h d ops v).2.2 else ((popT l h d ops v).2.1,ops0)
noncomputable def popsL (l : List El_grp) (h : Nat) (d : Bool) (ops q : List El_vt) : Int × List El_vt := popsR l h d ops q.reverse ops
noncomputable def swapL (l : List El_grp) (h : Nat) (d : Bool) (ops q out : List El_vt) : Int × List El_vt := if (popsL l h d ops q).1 = 0 then (0,(popsL l h d ops q).2 ++ out) else ((popsL l h d ops q).1,ops)
variable {l : List El_grp} {lo : List El_vt} {se : List Bool} {re : List El_vt} {op : List El_vt} {fr : List El_frame} {m : Nat} {C : Cp}
theorem getD_last (fs : List El_frame) (f z : El_frame) : (fs ++ [f]).getD fs.length z = f := by simp [List.getD_eq_getElem?_getD]
theorem c_mat (hl : l.length ≤ 1048576) (hg : ∀ g ∈ l,good_grp 1048576 g) (a b : El_vt) : SpecD S 105 [.ptr 0 0,.agg (enc_vt a),.agg (enc_vt b)] (ck l lo se re m C op fr) (.bool (mtF l a b)) (ck l lo se re m C op fr) := by
 have hv := c_Val l hl hg a b;unfold mtF;cases C
 all_goals
  refine specE ok sh105 rfl ?_;(conv=>whnf);cases h1 : (a.num == 0)
  · (conv=>whnf);cases h2 : (b.num == 0)
    · (conv=>whnf);refine cQ [] hv ?_;(conv=>whnf);exact eQ [0,1,2,3,4,5] (by exact ⟨rfl,rfl⟩)
    · (conv=>whnf);exact eQ [0,1,2,3,4,5] (by exact ⟨rfl,rfl⟩)
  · (conv=>whnf);exact eQ [0,1,2,3,4,5] (by exact ⟨rfl,rfl⟩)
theorem c_Pop (fs : List El_frame) (f : El_frame) (h : Nat) (hf : fs.length ≤ 4000000) (hh : f.height = (h : Int)) (hm : m ≤ op.length) (hm2 : m ≤ 40000000) (hC : C ≠ .unk) :
    Spec S 95 [.ptr 0 0] (ck l lo se re m C op (fs ++ [f])) fun r H => r = .tup [.agg (enc_vt (popL h f.dead (op.take m)).1),.int .i64 (popL h f.dead (op.take m)).2.1] ∧
     ∃ m' C',C' ≠ .unk ∧ m' ≤ m ∧ ((m' = m ∧ C' = C ∧ (popL h f.dead (op.take m)).2.2 = op.take m) ∨ (m' + 1 = m ∧ C' = .full ∧ (popL h f.dead (op.take m)).2.1 = 0 ∧ op.getD m' zvt = (popL h f.dead (op.take m)).1)) ∧ op.take m' = (popL h f.dead (op.take m)).2.2 ∧ H = ck l lo se re m' C' op (fs ++ [f]) := by
 have hlen : (op.take m).length = m := by simp; omega
 have hg := getD_last fs f (S.zero .frame);have hs := c_shut (l := l) (lo := lo) (se := se) (re := re) (op := op) (fr := fs ++ [f]) (m := m) (C := C) (by simp);have ht := c_top (l := l) (lo := lo) (se := se) (re := re) (op := op) (m := m) (C := C) fs f hf;unfold popL;rw [hlen];obtain ⟨o0,i0,u0,h0,s0,d0⟩ := f;simp only at hh;subst hh;have hF : 0 < (fs ++ [(⟨o0,i0,u0,(h : Int),s0,d0⟩ : El_frame)]).length := by simp
 generalize hfr : fs ++ [(⟨o0,i0,u0,(h : Int),s0,d0⟩ : El_frame)] = fr at *;have hlt : fs.length < fr.length := by rw [← hfr]; simp
 cases C;all_goals try exact absurd rfl hC
 all_goals
  refine specE ok sh95 rfl ?_;(conv=>whnf);refine cQ [0,1,2,3,4,5] hs ?_;(conv=>whnf);refine cQ [0,1,2,3,4,5] ht ?_;(conv=>whnf);refine ⟨rfl,hlt,(by decide : 3 + 1 ≤ 6),?_⟩;rw [hg];(conv=>whnf);refine cQ [0,1,2,3,4,5] c_sizeV ?_;(conv=>whnf);refine tQ ?_;(conv=>whnf);cases hd : decide ((h : Int) < m)
  · have hd' := of_decide_eq_false hd;rw [if_neg (by omega)];(conv=>whnf);refine ⟨rfl,hlt,(by decide : 5 + 1 ≤ 6),?_⟩;rw [hg];(conv=>whnf);cases d0
    · (conv=>whnf);exact eQ [0,1,2,3,4,5] ⟨rfl,m,_,by decide,Nat.le_refl _,.inl ⟨rfl,rfl,rfl⟩,rfl,rfl⟩
    · (conv=>whnf);exact eQ [0,1,2,3,4,5] ⟨rfl,m,_,by decide,Nat.le_refl _,.inl ⟨rfl,rfl,rfl⟩,rfl,rfl⟩
  · have hd' := of_decide_eq_true hd;have hw : IntKind.i64.wrap ((m : Int) - 1) = ((m - 1 : Nat) : Int) := by rw [wrap_i64 (by omega) (by omega)]; omega
    have e1 : (op.take m).getD (m - 1) zvt = op.getD (m - 1) zvt := by simp [List.getD_eq_getElem?_getD,show m - 1 < m by omega]
    have e2 : (op.take m).take (m - 1) = op.take (m - 1) := by rw [List.take_take]; congr 1; omega
    rw [if_pos (by omega),e1,e2];(conv=>whnf);refine cQ [0,1,2,3,4,5] (c_topV (by omega) hm (by omega)) ?_;(conv=>whnf);refine ⟨rfl,by omega,(by decide : 0 + 3 ≤ 3),?_⟩;rw [show op.getD (m - 1) (S.zero .vt) = op.getD (m - 1) zvt from rfl];generalize hx : op.getD (m - 1) zvt = x;(conv=>whnf);refine cQ [0,1,2,3,4,5] c_sizeV ?_;(conv=>whnf);refine tQ ?_;(conv=>whnf);rw [hw];refine cQ [0,1,2,3,4,5] (c_cutV (m - 1) (by omega)) ?_;(conv=>whnf);exact eQ [0,1,2,3,4,5] ⟨rfl,m - 1,.full,by decide,by omega,.inr ⟨by omega,rfl,rfl,hx⟩,rfl,rfl⟩
theorem c_pushVF (v : El_vt) (hm : m ≤ op.length) (hl : m ≤ 40000000) : SpecD S 106 [.ptr 0 5,.agg (enc_vt v)] (ck l lo se re m .full op fr) (.tup []) (ckB l lo se re (.row .vt op) (m + 1) .whole (op.take m ++ [v]) fr) := by
 refine specE ok sh106 rfl ?_;(conv=>whnf);refine tQ ?_;(conv=>whnf);refine ⟨rfl,by simp,?_⟩;(conv=>whnf);refine ⟨rfl,by simp; omega,fits_big (by show m + 1 ≤ _; omega) (by decide),by simp,?_⟩;(conv=>whnf);refine tQ ?_;(conv=>whnf);exact eQ [0,1,2,3,4,5,8] (by exact ⟨rfl,rfl⟩)
section
variable {K : Type} {El : K → Type}
theorem fN_of {n : Nat} {c : Nat → Prop} (h : c n) : fN n c := by
 have key : ∀ (l : List Nat),fN.go n c l := by
  intro l
  induction l with
  | nil => exact h
  | cons j l ih =>
   simp only [fN.go];split
   · rename_i hb;rw [← Nat.eq_of_beq_eq_true hb]; exact h
   · exact ih
 exact key _
theorem fC_of {x : Cp} {c : Cp → Prop} (h : c x) : fC x c := by cases x <;> exact h
theorem fI_of : ∀ {l : List (Option Nat)} {c : List (Option Nat) → Prop},c l → fI l c
 | [],_,h => by unfold fI; exact h
 | none :: r,_,h => by unfold fI; exact fI_of (l := r) h
 | some i :: r,_,h => by unfold fI; exact fN_of (fI_of (l := r) h)
theorem f1_of {v : AV K El} {c : AV K El → Prop} (h : c v) : f1 v c := by
 cases v <;> first | exact h | exact fN_of h | exact fN_of (fN_of h) | exact fN_of (fC_of h) | exact fI_of h
theorem fL_of : ∀ {l : List (AV K El)} {c : List (AV K El) → Prop},c l → fL l c
 | [],_,h => by unfold fL; exact h
 | v :: r,_,h => by unfold fL; exact f1_of (fL_of (l := r) h)
theorem fO_of {o : AO K El} {c : AO K El → Prop} (h : c o) : fO o c := by
 cases o <;> first | exact h | exact fL_of h | exact fN_of h
theorem fH_of : ∀ {H : Heap K El} {c : Heap K El → Prop},c H → fH H c
 | [],_,h => by unfold fH; exact h
 | v :: r,_,h => by unfold fH; exact fO_of (fH_of (H := r) h)
theorem quE_of {q : Bool} {H : Heap K El} {c : Heap K El → Prop} (h : c H) : quE q H c := by
 cases q
 · exact fH_of h
 · exact h
theorem f3_int {k : IntKind} {n : Int} {c : AV K El → Prop} (h : c (.int k n)) : f3 (.int k n) c := h
end
theorem call_same {f : Nat} {vs : List V} {H : Heap KT ElT} {k : V → Heap KT ElT → Prop} (ids : List Nat) {r : V} {H' : Heap KT ElT}
    (h : SpecD S f (vs.map (loc2 H ids [])) (locH H ids []) r H') (hn : natsB H.length ids = true) (ht : vs.all AV.ntup = true) (rn : V) (hr : glob H.length ids r = rn) (hH : globH H ids H' = H)
    (hk : k rn H) : CallP S f vs H k := call_of ids h hn ht (by rw [hr,hH]; exact hk)
theorem lss54 {fr : Fr KT ElT} {H : Heap KT ElT} {K : Fr KT ElT → Heap KT ElT → Prop} {x y : Int} (hs : look fr 6 = .int .i64 y) (b : Bool) (hb : decide (x < y) = b)
    (h : K ((35,.bool b) :: (34,.int .i64 y) :: (33,.int .i64 x) :: fr) H) :
    vcLE S [⟨none,.mov,[.tmp 6],some 34,[]⟩,⟨none,.bin .lss .num,[.tmp 33,.tmp 34],some 35,[]⟩] ((33,.int .i64 x) :: fr) H K := by
 subst hb;have e : look ((33,(.int .i64 x : V)) :: fr) 6 = .int .i64 y := hs;simp only [vcLE,GIns.vcE,GIns.runE,opdsE,opdE,e];exact h
def popP (l : List El_grp) (lo : List El_vt) (se : List Bool) (re : List El_vt) (m : Nat) (C : Cp) (op : List El_vt) (fr : List El_frame) (p : El_vt × Int × List El_vt) (r : V) (H : Heap KT ElT) : Prop :=
 r = .tup [.agg (enc_vt p.1),.int .i64 p.2.1] ∧
     ((p.2.1 = 0 ∧ ∃ m' C',C' ≠ .unk ∧ m' ≤ m ∧ op.take m' = p.2.2 ∧ H = ck l lo se re m' C' op fr) ∨
      (p.2.1 ≠ 0 ∧ (H = ck l lo se re m C op fr ∨ H = ckB l lo se re (.row .vt op) m .whole (op.take m) fr)))
def popQ (l : List El_grp) (lo : List El_vt) (se : List Bool) (re : List El_vt) (m : Nat) (C : Cp) (op : List El_vt) (fr : List El_frame) (w : El_vt) (e : Int) (o : List El_vt) (r : V) (H : Heap KT ElT) : Prop :=
 r = .tup [.agg (enc_vt w),.int .i64 e] ∧ ∃ m' C',C' ≠ .unk ∧ m' ≤ m ∧ ((m' = m ∧ C' = C ∧ o = op.take m) ∨ (m' + 1 = m ∧ C' = .full ∧ e = 0 ∧ op.getD m' zvt = w)) ∧ op.take m' = o ∧ H = ck l lo se re m' C' op fr
theorem c_PopTe {w : El_vt} {e : Int} {o : List El_vt} (he : ¬ e = 0) (hp : Spec S 95 [.ptr 0 0] (ck l lo se re m C op fr) (popQ l lo se re m C op fr w e o)) (hC : C ≠ .unk) (v : El_vt) :
    Spec S 54 [.ptr 0 0,.agg (enc_vt v)] (ck l lo se re m C op fr) (popP l lo se re m C op fr (w,e,o)) := by
 have he' : (e == 0) = false := by simpa using he
 cases C;all_goals try exact absurd rfl hC
 all_goals
  refine specE ok sh54 rfl ?_;(conv=>whnf);refine cQ [0,1,2,3,4,5] c_none ?_;(conv=>whnf);refine cQ [0,1,2,3,4,5] c_sizeV ?_;(conv=>whnf);refine rQ [0,1,2,3,4,5] hp ?_;rintro r H' ⟨rfl,m',C',hC',hm',hq,ho,rfl⟩
  rcases hq with ⟨rfl,rfl,hq⟩ | ⟨_,_,h0,_⟩
  · (conv=>whnf);simp only [bne,he'];(conv=>whnf);exact eQ [0,1,2,3,4,5] ⟨rfl,.inr ⟨he,.inl rfl⟩⟩
  · exact absurd h0 he
theorem c_PopTy {w v : El_vt} {o : List El_vt} (hp : Spec S 95 [.ptr 0 0] (ck l lo se re m C op fr) (popQ l lo se re m C op fr w 0 o)) (hC : C ≠ .unk)
    (hmt : ∀ m' C',SpecD S 105 [.ptr 0 0,.agg (enc_vt w),.agg (enc_vt v)] (ck l lo se re m' C' op fr) (.bool true) (ck l lo se re m' C' op fr)) :
    Spec S 54 [.ptr 0 0,.agg (enc_vt v)] (ck l lo se re m C op fr) (popP l lo se re m C op fr (w,0,o)) := by
 cases C;all_goals try exact absurd rfl hC
 all_goals
  refine specE ok sh54 rfl ?_;(conv=>whnf);refine cQ [0,1,2,3,4,5] c_none ?_;(conv=>whnf);refine cQ [0,1,2,3,4,5] c_sizeV ?_;(conv=>whnf);refine rQ [0,1,2,3,4,5] hp ?_;rintro r H' ⟨rfl,m',C',hC',hm',hq,ho,rfl⟩;have hmt := hmt m' C';cases C';all_goals try exact absurd rfl hC'
  all_goals
   (conv=>whnf);refine cQ [0,1,2,3,4,5] hmt ?_;(conv=>whnf);exact eQ [0,1,2,3,4,5] ⟨rfl,.inl ⟨rfl,m',_,by decide,hm',ho,rfl⟩⟩
theorem c_PopTn {w v : El_vt} {o : List El_vt} (hp : Spec S 95 [.ptr 0 0] (ck l lo se re m C op fr) (popQ l lo se re m C op fr w 0 o)) (hC : C ≠ .unk)
    (hmt : ∀ m' C',SpecD S 105 [.ptr 0 0,.agg (enc_vt w),.agg (enc_vt v)] (ck l lo se re m' C' op fr) (.bool false) (ck l lo se re m' C' op fr)) (hm : m ≤ op.length) (hm2 : m ≤ 40000000) (o2 : List El_vt) :
    Spec S 54 [.ptr 0 0,.agg (enc_vt v)] (ck l lo se re m C op fr) (popP l lo se re m C op fr (zvt,131,o2)) := by
 have h131 : ¬ (131 : Int) = 0 := by decide
 cases C;all_goals try exact absurd rfl hC
 all_goals
  refine specE ok sh54 rfl ?_;(conv=>whnf);refine cQ [0,1,2,3,4,5] c_none ?_;(conv=>whnf);refine cQ [0,1,2,3,4,5] c_sizeV ?_;(conv=>whnf);refine rQ [0,1,2,3,4,5] hp ?_;rintro r H' ⟨rfl,m',C',hC',hm',hq,ho,rfl⟩;have hmt := hmt m' C';cases C';all_goals try exact absurd rfl hC'
  all_goals
   (conv=>whnf);refine cQ [0,1,2,3,4,5] hmt ?_;(conv=>whnf);refine call_same [0,1,2,3,4,5] (c_sizeV (l := l) (lo := lo) (se := se) (re := re) (m := m') (op := op) (fr := fr)) (by rfl) (by rfl) (.int .i64 m') (by rfl) (by rfl) ?_;refine f3_int (quE_of ?_);generalize hd : decide ((m' : Int) < m) = b;refine lss54 rfl b hd ?_;cases b
   · have hd' := of_decide_eq_false hd;obtain rfl : m' = m := by omega
     rcases hq with ⟨_,h1,hq⟩ | ⟨h1,_,_,h2⟩
     · cases h1
       all_goals
        (conv=>whnf);exact eQ [0,1,2,3,4,5] ⟨rfl,.inr ⟨h131,.inl rfl⟩⟩
     · omega
   · have hd' := of_decide_eq_true hd
     rcases hq with ⟨h1,_,hq⟩ | ⟨h1,h3,_,h2⟩
     · omega
     cases h3
     all_goals
      (conv=>whnf);refine cQ [0,1,2,3,4,5] (c_pushVF w (by omega) (by omega)) ?_;conv=>whnf
      have e3 : op.take m = op.take m' ++ [w] := by
       rw [← h1,List.take_add_one,List.getElem?_eq_getElem (show m' < op.length by omega)];rw [← h2];simp [List.getD_eq_getElem?_getD,show m' < op.length by omega]
      refine eQ [0,1,2,3,4,5,9] ⟨rfl,.inr ⟨h131,.inr ?_⟩⟩;rw [e3,← h1];rfl
theorem c_PopT (hl : l.length ≤ 1048576) (hg : ∀ g ∈ l,good_grp 1048576 g) (fs : List El_frame) (f : El_frame) (h : Nat) (hf : fs.length ≤ 4000000) (hh : f.height = (h : Int)) (hm : m ≤ op.length) (hm2 : m ≤ 40000000) (hC : C ≠ .unk) (v : El_vt) :
    Spec S 54 [.ptr 0 0,.agg (enc_vt v)] (ck l lo se re m C op (fs ++ [f])) (popP l lo se re m C op (fs ++ [f]) (popT l h f.dead (op.take m) v)) := by
 have hp := c_Pop (l := l) (lo := lo) (se := se) (re := re) (op := op) (m := m) (C := C) fs f h hf hh hm hm2 hC;have hmt := fun a m' C' => @c_mat l lo se re op (fs ++ [f]) m' C' hl hg a v;unfold popT;generalize fs ++ [f] = fr at *;generalize popL h f.dead (op.take m) = p at *;obtain ⟨w,e,o⟩ := p;simp only at hp ⊢
 by_cases he : e = 0
 · subst he;rw [if_pos rfl]
   cases hb : mtF l w v with
   | true =>
    rw [if_pos rfl];exact c_PopTy hp hC fun m' C' => by have := hmt w m' C'; rw [hb] at this; exact this
   | false =>
    rw [if_neg (by decide)];exact c_PopTn hp hC (fun m' C' => by have := hmt w m' C'; rw [hb] at this; exact this) hm hm2 _
 · rw [if_neg he];exact c_PopTe he hp hC v
end Ck
end Sh
end Go.Proofs.YtomdfaelgcefdaaGreatDoor
namespace Go.Proofs.YtomdfaelgcefdaaGreatDoor
open Go
namespace Sh
namespace Ck
def popsV (q : List El_vt) (j : Int) : List V := [.ptr 0 0,.imm .vt q,.ptr 6 0,.int .i64 j]
variable {l : List El_grp} {lo : List El_vt} {se : List Bool} {re : List El_vt} {op : List El_vt} {fr : List El_frame} {m : Nat} {C : Cp}
theorem rev_succ {q : List El_vt} {j : Nat} {y : El_vt} (h : q[j]? = some y) : (q.take (j + 1)).reverse = y :: (q.take j).reverse := by
 rw [List.take_add_one,h]; simp
theorem c_Pops0 (h : Nat) (d : Bool) (q : List El_vt) (hq : q.length ≤ 4000000) (hC : C ≠ .unk) (hf : 0 < fr.length) (_hm : m ≤ op.length) (_hm2 : m ≤ 40000000)
    (hpt : ∀ (m' : Nat) (C' : Cp) (v : El_vt),m' ≤ m → C' ≠ .unk → Spec S 54 [.ptr 0 0,.agg (enc_vt v)] (ck l lo se re m' C' op fr) (popP l lo se re m' C' op fr (popT l h d (op.take m') v))) :
    Spec S 15 [.ptr 0 0,.imm .vt q] (ck l lo se re m C op fr) fun r H => r = .int .i64 (popsL l h d (op.take m) q).1 ∧
     ∃ m' C',C' ≠ .unk ∧ m' ≤ m ∧ op.take m' = (popsL l h d (op.take m) q).2 ∧ H = ck l lo se re m' C' op fr := by
 have hw0 : IntKind.i64.wrap ((q.length : Int) - 1) = (q.length : Int) - 1 := wrap_i64 (by omega) (by omega);have hi : popsL l h d (op.take m) q = popsR l h d (op.take m) (q.take q.length).reverse (op.take m) := by rw [List.take_length]; rfl
 generalize popsL l h d (op.take m) q = P at hi ⊢
 cases C with
 | unk => exact absurd rfl hC
 | full =>
  refine specE ok sh15 rfl ?_;(conv=>whnf);refine cQ [0,1,2,3,4,5] (c_shut hf) ?_;conv=>whnf
  refine loop_of [] [0,1,2,3,4,5,6] (fun vs H => ∃ (j m' : Nat) (C' : Cp),j ≤ q.length ∧ C' ≠ .unk ∧ m' ≤ m ∧ P = popsR l h d (op.take m) (q.take j).reverse (op.take m') ∧ vs = popsV q ((j : Int) - 1) ∧ H = ck l lo se re m' C' op fr ++ [.cells [.own .vt 4 0 m .full]])
   (fun vs _ => match vs with | [_,_,_,.int _ j] => (j + 1).toNat | _ => 0) (by rfl) (by rfl) (by rfl) (by rfl) ?_ ?_
  · exact ⟨q.length,m,_,Nat.le_refl _,hC,Nat.le_refl _,hi,congrArg (popsV q) hw0,rfl⟩
  clear hi;rintro vs H1 ⟨j,m',C',hj,hC',hm',hP,rfl,rfl⟩;cases C';all_goals try exact absurd rfl hC'
  all_goals
   (conv=>whnf);cases hd : decide ((0 : Int) ≤ (j : Int) - 1)
   · (conv=>whnf);have := of_decide_eq_false hd;obtain rfl : j = 0 := by omega
     have e : P = (0,op.take m') := hP;subst e;exact eQ [0,1,2,3,4,5] ⟨rfl,m',_,hC',hm',rfl,rfl⟩
   · (conv=>whnf);have hj0 := of_decide_eq_true hd;obtain ⟨i,rfl⟩ : ∃ i,j = i + 1 := ⟨j - 1,by omega⟩;have hx := getD_at (show i < q.length by omega) (S.zero .vt);refine ⟨rfl,by omega,by omega,?_⟩;(conv=>whnf);refine ⟨by omega,by decide,?_⟩;rw [show q.getD (Int.toNat (((i + 1 : Nat) : Int) - 1)) (S.zero .vt) = q.getD i (S.zero .vt) by congr 1; omega];generalize q.getD i (S.zero .vt) = y at hx;rw [rev_succ hx,popsR] at hP;have hpt := hpt m' _ y hm' hC';generalize popT l h d (op.take m') y = p at hpt hP;obtain ⟨w,e,o⟩ := p;simp only at hP;(conv=>whnf);refine rQ [0,1,2,3,4,5] hpt ?_;rintro r H' ⟨rfl,⟨he,m2,C2,hC2,hm2,ho,rfl⟩ | ⟨he,rfl | rfl⟩⟩
     · simp only at he ho;subst he;rw [if_pos rfl,← ho] at hP;cases C2;all_goals try exact absurd rfl hC2
       all_goals
        (conv=>whnf);have hw : IntKind.i64.wrap (((i + 1 : Nat) : Int) - 1 - 1) = (i : Int) - 1 := by rw [wrap_i64 (by omega) (by omega)]; omega
        refine ⟨[0,1,2,3,4,5,6],[],relo_of [0,1,2,3,4,5,6] (by rfl) (by rfl),?_⟩;refine ⟨⟨i,m2,_,by omega,hC2,by omega,hP,congrArg (popsV q) hw,rfl⟩,?_⟩;show (IntKind.i64.wrap (((i + 1 : Nat) : Int) - 1 - 1) + 1).toNat < (((i + 1 : Nat) : Int) - 1 + 1).toNat;rw [hw]; omega
     all_goals
      simp only at he;have he2 : (e == 0) = false := by simpa using he
      rw [if_neg he] at hP;subst hP;(conv=>whnf);simp only [bne,he2];(conv=>whnf);refine ⟨rfl,?_⟩;(conv=>whnf);exact eQ [0,1,2,3,4,5] ⟨rfl,m,_,hC,Nat.le_refl _,rfl,rfl⟩
 | whole =>
  refine specE ok sh15 rfl ?_;(conv=>whnf);refine cQ [0,1,2,3,4,5] (c_shut hf) ?_;conv=>whnf
  refine loop_of [] [0,1,2,3,4,5,6] (fun vs H => ∃ (j m' : Nat) (C' : Cp),j ≤ q.length ∧ C' ≠ .unk ∧ m' ≤ m ∧ P = popsR l h d (op.take m) (q.take j).reverse (op.take m') ∧ vs = popsV q ((j : Int) - 1) ∧ H = ck l lo se re m' C' op fr ++ [.cells [.own .vt 4 0 m .whole]])
   (fun vs _ => match vs with | [_,_,_,.int _ j] => (j + 1).toNat | _ => 0) (by rfl) (by rfl) (by rfl) (by rfl) ?_ ?_
  · exact ⟨q.length,m,_,Nat.le_refl _,hC,Nat.le_refl _,hi,congrArg (popsV q) hw0,rfl⟩
  clear hi;rintro vs H1 ⟨j,m',C',hj,hC',hm',hP,rfl,rfl⟩;cases C';all_goals try exact absurd rfl hC'
  all_goals
   (conv=>whnf);cases hd : decide ((0 : Int) ≤ (j : Int) - 1)
   · (conv=>whnf);have := of_decide_eq_false hd;obtain rfl : j = 0 := by omega
     have e : P = (0,op.take m') := hP;subst e;exact eQ [0,1,2,3,4,5] ⟨rfl,m',_,hC',hm',rfl,rfl⟩
   · (conv=>whnf);have hj0 := of_decide_eq_true hd;obtain ⟨i,rfl⟩ : ∃ i,j = i + 1 := ⟨j - 1,by omega⟩;have hx := getD_at (show i < q.length by omega) (S.zero .vt);refine ⟨rfl,by omega,by omega,?_⟩;(conv=>whnf);refine ⟨by omega,by decide,?_⟩;rw [show q.getD (Int.toNat (((i + 1 : Nat) : Int) - 1)) (S.zero .vt) = q.getD i (S.zero .vt) by congr 1; omega];generalize q.getD i (S.zero .vt) = y at hx;rw [rev_succ hx,popsR] at hP;have hpt := hpt m' _ y hm' hC';generalize popT l h d (op.take m') y = p at hpt hP;obtain ⟨w,e,o⟩ := p;simp only at hP;(conv=>whnf);refine rQ [0,1,2,3,4,5] hpt ?_;rintro r H' ⟨rfl,⟨he,m2,C2,hC2,hm2,ho,rfl⟩ | ⟨he,rfl | rfl⟩⟩
     · simp only at he ho;subst he;rw [if_pos rfl,← ho] at hP;cases C2;all_goals try exact absurd rfl hC2
       all_goals
        (conv=>whnf);have hw : IntKind.i64.wrap (((i + 1 : Nat) : Int) - 1 - 1) = (i : Int) - 1 := by rw [wrap_i64 (by omega) (by omega)]; omega
        refine ⟨[0,1,2,3,4,5,6],[],relo_of [0,1,2,3,4,5,6] (by rfl) (by rfl),?_⟩;refine ⟨⟨i,m2,_,by omega,hC2,by omega,hP,congrArg (popsV q) hw,rfl⟩,?_⟩;show (IntKind.i64.wrap (((i + 1 : Nat) : Int) - 1 - 1) + 1).toNat < (((i + 1 : Nat) : Int) - 1 + 1).toNat;rw [hw]; omega
     all_goals
      simp only at he;have he2 : (e == 0) = false := by simpa using he
      rw [if_neg he] at hP;subst hP;(conv=>whnf);simp only [bne,he2];(conv=>whnf);refine ⟨rfl,?_⟩;(conv=>whnf);exact eQ [0,1,2,3,4,5] ⟨rfl,m,_,hC,Nat.le_refl _,rfl,rfl⟩
theorem c_Pops (hl : l.length ≤ 1048576) (hg : ∀ g ∈ l,good_grp 1048576 g) (fs : List El_frame) (f : El_frame) (h : Nat) (hf : fs.length ≤ 4000000) (hh : f.height = (h : Int)) (hm : m ≤ op.length) (hm2 : m ≤ 40000000) (hC : C ≠ .unk) (q : List El_vt) (hq : q.length ≤ 4000000) :
    Spec S 15 [.ptr 0 0,.imm .vt q] (ck l lo se re m C op (fs ++ [f])) fun r H => r = .int .i64 (popsL l h f.dead (op.take m) q).1 ∧
     ∃ m' C',C' ≠ .unk ∧ m' ≤ m ∧ op.take m' = (popsL l h f.dead (op.take m) q).2 ∧ H = ck l lo se re m' C' op (fs ++ [f]) :=
 c_Pops0 h f.dead q hq hC (by simp) hm hm2 fun m' C' v hm' hC' => c_PopT hl hg fs f h hf hh (by omega) (by omega) hC' v
end Ck
end Sh
end Go.Proofs.YtomdfaelgcefdaaGreatDoor
namespace Go.Proofs.YtomdfaelgcefdaaGreatDoor
open Go
namespace Sh
namespace Ck
def puV (q : List El_vt) (j : Int) : List V := [.ptr 0 0,.imm .vt q,.int .i64 q.length,.int .i64 j]
theorem take_succ' {q : List El_vt} {j : Nat} {y : El_vt} (h : q[j]? = some y) : q.take (j + 1) = q.take j ++ [y] := by rw [List.take_add_one,h]; rfl
variable {l : List El_grp} {lo : List El_vt} {se : List Bool} {re : List El_vt} {op : List El_vt} {fr : List El_frame} {m : Nat} {C : Cp}
theorem c_Pushes (hC : C ≠ .unk) (hf : 0 < fr.length) (hm : m ≤ op.length) (hm2 : m ≤ 20000000) (q : List El_vt) (hq : q.length ≤ 16000000) :
    Spec S 55 [.ptr 0 0,.imm .vt q] (ck l lo se re m C op fr) (okR l lo se re fr (.int .i64 0) (op.take m ++ q)) := by
 refine okR_of rfl (fun _ _ => rfl) ?_
 cases C with
 | unk => exact absurd rfl hC
 | full =>
  refine specE ok sh55 rfl ?_;(conv=>whnf);refine cQ [0,1,2,3,4,5] (c_shut hf) ?_;conv=>whnf
  refine loop_of [] [0,1,2,3,4,5] (fun vs H => ∃ j : Nat,j ≤ q.length ∧ vs = puV q j ∧ ((j = 0 ∧ H = ck l lo se re m .full op fr) ∨ (0 < j ∧ ∃ m' C' op',m' ≤ op'.length ∧ C' ≠ .unk ∧ op'.take m' = op.take m ++ q.take j ∧ H = ckB l lo se re .gone m' C' op' fr)))
   (fun vs _ => match vs with | [_,_,_,.int _ j] => q.length - j.toNat | _ => 0) (by rfl) (by rfl) (by rfl) (by rfl) ⟨0,Nat.zero_le _,rfl,.inl ⟨rfl,rfl⟩⟩ ?_
  rintro vs H1 ⟨j,hj,rfl,⟨rfl,rfl⟩ | ⟨hj0,m',C',op',hm',hC',ho,rfl⟩⟩
  · (conv=>whnf);cases hd : decide (((0 : Nat) : Int) < q.length)
    · (conv=>whnf);have := of_decide_eq_false hd;have hq0 : q = [] := List.length_eq_zero_iff.1 (by omega);subst hq0;exact eQ [0,1,2,3,4,5] ⟨rfl,m,_,op,hm,by decide,by simp,.inl rfl⟩
    · (conv=>whnf);have := of_decide_eq_true hd;have hy : q[0]? = some (q.getD 0 (S.zero .vt)) := getD_at (by omega) _;refine ⟨rfl,by omega,by omega,?_⟩;(conv=>whnf);refine ⟨by show 0 < q.length; omega,by decide,?_⟩;rw [show Int.toNat ((0 : Nat) : Int) = 0 from rfl];generalize q.getD 0 (S.zero .vt) = y at hy;(conv=>whnf);refine rQ [0,1,2,3,4,5] (c_pushV y hC hm (by omega)) ?_;rintro r H' ⟨rfl,m2,C2,op2,hm2',hC2,ho2,rfl⟩;cases C2;all_goals try exact absurd rfl hC2
      all_goals
       (conv=>whnf);refine ⟨[0,1,2,3,4,5,7],[],relo_of [0,1,2,3,4,5,7] (by rfl) (by rfl),?_⟩;refine ⟨⟨1,by omega,rfl,.inr ⟨by omega,m2,_,op2,hm2',hC2,?_,rfl⟩⟩,?_⟩
       · rw [ho2,show q.take 1 = [y] by rw [take_succ' hy]; rfl]
       · show q.length - 1 < q.length - 0;omega
  · have hml : m' = m + j := by
     have := congrArg List.length ho;simp at this;omega
    cases C';all_goals try exact absurd rfl hC'
    all_goals
     (conv=>whnf);cases hd : decide ((j : Int) < q.length)
     · (conv=>whnf);have := of_decide_eq_false hd;obtain rfl : j = q.length := by omega
       rw [List.take_length] at ho;exact eQ [0,1,2,3,4,5,6] ⟨rfl,m',_,op',hm',hC',ho,.inr ⟨_,rfl⟩⟩
     · (conv=>whnf);have := of_decide_eq_true hd;have hy := getD_at (show j < q.length by omega) (S.zero .vt);refine ⟨rfl,by omega,by omega,?_⟩;(conv=>whnf);refine ⟨by rw [Int.toNat_natCast]; omega,by decide,?_⟩;rw [Int.toNat_natCast];generalize q.getD j (S.zero .vt) = y at hy;(conv=>whnf);have hw : IntKind.i64.wrap ((j : Int) + 1) = ((j + 1 : Nat) : Int) := wrap_i64 (by omega) (by omega);refine rQ [0,1,2,3,6,5] (c_pushV y hC' hm' (by omega)) ?_;rintro r H' ⟨rfl,m2,C2,op2,hm2',hC2,ho2,rfl⟩;cases C2;all_goals try exact absurd rfl hC2
       all_goals
        (conv=>whnf);refine ⟨[0,1,2,3,4,5,8],[],relo_of [0,1,2,3,4,5,8] (by rfl) (by rfl),?_⟩;refine ⟨⟨j + 1,by omega,congrArg (puV q) hw,.inr ⟨by omega,m2,_,op2,hm2',hC2,?_,rfl⟩⟩,?_⟩
        · rw [ho2,ho,take_succ' hy,List.append_assoc]
        · show q.length - (IntKind.i64.wrap ((j : Int) + 1)).toNat < q.length - (j : Int).toNat;rw [hw]; omega
 | whole =>
  refine specE ok sh55 rfl ?_;(conv=>whnf);refine cQ [0,1,2,3,4,5] (c_shut hf) ?_;conv=>whnf
  refine loop_of [] [0,1,2,3,4,5] (fun vs H => ∃ j : Nat,j ≤ q.length ∧ vs = puV q j ∧ ((j = 0 ∧ H = ck l lo se re m .whole op fr) ∨ (0 < j ∧ ∃ m' C' op',m' ≤ op'.length ∧ C' ≠ .unk ∧ op'.take m' = op.take m ++ q.take j ∧ H = ckB l lo se re .gone m' C' op' fr)))
   (fun vs _ => match vs with | [_,_,_,.int _ j] => q.length - j.toNat | _ => 0) (by rfl) (by rfl) (by rfl) (by rfl) ⟨0,Nat.zero_le _,rfl,.inl ⟨rfl,rfl⟩⟩ ?_
  rintro vs H1 ⟨j,hj,rfl,⟨rfl,rfl⟩ | ⟨hj0,m',C',op',hm',hC',ho,rfl⟩⟩
  · (conv=>whnf);cases hd : decide (((0 : Nat) : Int) < q.length)
    · (conv=>whnf);have := of_decide_eq_false hd;have hq0 : q = [] := List.length_eq_zero_iff.1 (by omega);subst hq0;exact eQ [0,1,2,3,4,5] ⟨rfl,m,_,op,hm,by decide,by simp,.inl rfl⟩
    · (conv=>whnf);have := of_decide_eq_true hd;have hy : q[0]? = some (q.getD 0 (S.zero .vt)) := getD_at (by omega) _;refine ⟨rfl,by omega,by omega,?_⟩;(conv=>whnf);refine ⟨by show 0 < q.length; omega,by decide,?_⟩;rw [show Int.toNat ((0 : Nat) : Int) = 0 from rfl];generalize q.getD 0 (S.zero .vt) = y at hy;(conv=>whnf);refine rQ [0,1,2,3,4,5] (c_pushV y hC hm (by omega)) ?_;rintro r H' ⟨rfl,m2,C2,op2,hm2',hC2,ho2,rfl⟩;cases C2;all_goals try exact absurd rfl hC2
      all_goals
       (conv=>whnf);refine ⟨[0,1,2,3,4,5,7],[],relo_of [0,1,2,3,4,5,7] (by rfl) (by rfl),?_⟩;refine ⟨⟨1,by omega,rfl,.inr ⟨by omega,m2,_,op2,hm2',hC2,?_,rfl⟩⟩,?_⟩
       · rw [ho2,show q.take 1 = [y] by rw [take_succ' hy]; rfl]
       · show q.length - 1 < q.length - 0;omega
  · have hml : m' = m + j := by
     have := congrArg List.length ho;simp at this;omega
    cases C';all_goals try exact absurd rfl hC'
    all_goals
     (conv=>whnf);cases hd : decide ((j : Int) < q.length)
     · (conv=>whnf);have := of_decide_eq_false hd;obtain rfl : j = q.length := by omega
       rw [List.take_length] at ho;exact eQ [0,1,2,3,4,5,6] ⟨rfl,m',_,op',hm',hC',ho,.inr ⟨_,rfl⟩⟩
     · (conv=>whnf);have := of_decide_eq_true hd;have hy := getD_at (show j < q.length by omega) (S.zero .vt);refine ⟨rfl,by omega,by omega,?_⟩;(conv=>whnf);refine ⟨by rw [Int.toNat_natCast]; omega,by decide,?_⟩;rw [Int.toNat_natCast];generalize q.getD j (S.zero .vt) = y at hy;(conv=>whnf);have hw : IntKind.i64.wrap ((j : Int) + 1) = ((j + 1 : Nat) : Int) := wrap_i64 (by omega) (by omega);refine rQ [0,1,2,3,6,5] (c_pushV y hC' hm' (by omega)) ?_;rintro r H' ⟨rfl,m2,C2,op2,hm2',hC2,ho2,rfl⟩;cases C2;all_goals try exact absurd rfl hC2
       all_goals
        (conv=>whnf);refine ⟨[0,1,2,3,4,5,8],[],relo_of [0,1,2,3,4,5,8] (by rfl) (by rfl),?_⟩;refine ⟨⟨j + 1,by omega,congrArg (puV q) hw,.inr ⟨by omega,m2,_,op2,hm2',hC2,?_,rfl⟩⟩,?_⟩
        · rw [ho2,ho,take_succ' hy,List.append_assoc]
        · show q.length - (IntKind.i64.wrap ((j : Int) + 1)).toNat < q.length - (j : Int).toNat;rw [hw]; omega
theorem c_Swap (hl : l.length ≤ 1048576) (hg : ∀ g ∈ l,good_grp 1048576 g) (fs : List El_frame) (f : El_frame) (h : Nat) (hf : fs.length ≤ 4000000) (hh : f.height = (h : Int)) (hm : m ≤ op.length) (hm2 : m ≤ 20000000) (hC : C ≠ .unk) (q out : List El_vt) (hq : q.length ≤ 4000000) (ho : out.length ≤ 16000000) :
    Spec S 17 [.ptr 0 0,.imm .vt q,.imm .vt out] (ck l lo se re m C op (fs ++ [f])) (okR l lo se re (fs ++ [f]) (.int .i64 (swapL l h f.dead (op.take m) q out).1) (swapL l h f.dead (op.take m) q out).2) := by
 have hp := c_Pops (lo := lo) (se := se) (re := re) (op := op) (m := m) (C := C) hl hg fs f h hf hh hm (by omega) hC q hq;have hpu := fun m' C' (hC' : C' ≠ .unk) (hm' : m' ≤ m) => c_Pushes (l := l) (lo := lo) (se := se) (re := re) (op := op) (fr := fs ++ [f]) (m := m') (C := C') hC' (by simp) (by omega) (by omega) out ho;have hsw : swapL l h f.dead (op.take m) q out = if (popsL l h f.dead (op.take m) q).1 = 0 then (0,(popsL l h f.dead (op.take m) q).2 ++ out) else ((popsL l h f.dead (op.take m) q).1,op.take m) := rfl
 have hpe : (popsL l h f.dead (op.take m) q).1 ≠ 0 → (popsL l h f.dead (op.take m) q).2 = op.take m := by
  intro he
  have key : ∀ (r ops0 ops : List El_vt),(popsR l h f.dead ops0 r ops).1 ≠ 0 → (popsR l h f.dead ops0 r ops).2 = ops0 := by
   intro r
   induction r with
   | nil => intro ops0 ops h0; exact absurd rfl h0
   | cons v r ih =>
    intro ops0 ops h0;simp only [popsR] at h0 ⊢;split
    · rename_i h1; rw [if_pos h1] at h0; exact ih _ _ h0
    · rfl
  exact key _ _ _ he
 rw [hsw];clear hsw;generalize fs ++ [f] = fr at *;generalize popsL l h f.dead (op.take m) q = P at *;obtain ⟨e,o⟩ := P;simp only at hp hpe ⊢
 by_cases he : e = 0
 · subst he;rw [if_pos rfl];refine okR_of rfl (fun _ _ => rfl) ?_;cases C;all_goals try exact absurd rfl hC
   all_goals
    refine specE ok sh17 rfl ?_;(conv=>whnf);refine rQ [0,1,2,3,4,5] hp ?_;rintro r H' ⟨rfl,m',C',hC',hm',hq',rfl⟩;have hpu := hpu m' C' hC' hm';rw [hq'] at hpu;cases C';all_goals try exact absurd rfl hC'
    all_goals
     (conv=>whnf);refine rQ [0,1,2,3,4,5] hpu ?_;rintro r H' ⟨rfl,m2,C2,op2,hm2',hC2,ho2,rfl⟩;cases C2;all_goals try exact absurd rfl hC2
     all_goals
      (conv=>whnf);exact eQ [0,1,2,3,4,5,6] ⟨rfl,m2,_,op2,hm2',hC2,ho2,.inr ⟨_,rfl⟩⟩
 · rw [if_neg he];have he2 : (e == 0) = false := by simpa using he
   refine okR_of rfl (fun _ _ => rfl) ?_;cases C;all_goals try exact absurd rfl hC
   all_goals
    refine specE ok sh17 rfl ?_;(conv=>whnf);refine rQ [0,1,2,3,4,5] hp ?_;rintro r H' ⟨rfl,m',C',hC',hm',hq',rfl⟩;cases C';all_goals try exact absurd rfl hC'
    all_goals
     (conv=>whnf);simp only [bne,he2];(conv=>whnf);exact eQ [0,1,2,3,4,5] ⟨rfl,m',_,op,by omega,hC',by rw [hq']; exact hpe he,.inl rfl⟩
 end Ck
 end Sh
 end Go.Proofs.YtomdfaelgcefdaaGreatDoor
