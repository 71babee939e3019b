/- Part of the proof. -/
import Derived.Test.YtloccchppmffpaaGreatDoorProg
import Derived.KernelRfl
import Derived.Ground.NamesProg
import Derived.Shelf.Unicode.DecodeAny
import Derived.Shelf.Small.Strs
import Derived.Shelf.LaySoft
import Derived.Shelf.Strings.OnBuilder
import Derived.Shelf.Strings.Fields
import Derived.Test.YtloccchppmffpaaGreatDoorF
set_option linter.unnecessarySimpa false
set_option linter.unusedVariables false
set_option linter.unusedSimpArgs false
set_option linter.defProp false
set_option maxRecDepth 20000
set_option maxHeartbeats 8000000
namespace Go.Proofs.YtloccchppmffpaaGreatDoor
open Go Go.Proofs.YtloccchppmffpaaGreatDoor.AL
def eK:=@List.take_length
def fR:=@List.take_succ_eq_append_getElem
def gW:=@Bool.true_and
def hv:=@List.any_eq_false
def iu:=@Int.le_refl
def mS:=@List.take_add_one
def mT:=@Bool.false_and
def oc:=@List.drop_length
def pG:=@Nat.not_lt_zero
def qZ:=@List.findIdx?_eq_some_iff_getElem
def te:=@List.findIdx?_eq_none_iff
def tf:=@decide_eq_true
def tg:=@List.map_take
def vi:=@List.nodup_cons
def vj:=@List.drop_eq_nil_of_le
def vk:=@List.all_append
def Hr:=@decide_eq_decide
def Hs:=@List.all_eq_false
def Ht:=@List.flatten_append
def Hu:=@List.set_append
def PM:=@List.getElem_of_mem
def PN:=@Bool.eq_false_iff
def PO:=@decide_eq_false_iff_not
def PQ:=@List.take_take
def PR:=@List.length_eq_zero_iff
def ahU:=@List.take_append_of_le_length
section
def a157:AF:=
{nt:=27,body:=(M [O 4 (.ak (.av (.nil 1)))] (.seq (M [V 5 1,O 6 (B .lss 5 0)] (K 6 (.aY [O 7 (.cQ 9 (.av (.lit (.string ⟨#[99,97,110,110,111,116,32,98,101,32,110,101,103,97,116,105,118,101]⟩)))),⟨none,none,.panic (T 7)⟩]) .skip)) (.seq (M ([V 8 1,V 9 0,O 10 (.ext .mW [T 9]),V 11 0,O 12 (N 11),O 13 (A .sub 10 12),O 14 (A .sub 8 13),V 1 14]) (M [V 15 1,O 16 (B .gtr 15 0)] (K 16 (J [V 17 0,V 18 0,O 19 (.ext .mW [T 18]),O 20 (.slice 1 (T 17) none (some (T 19))),V 21 1,O 22 (.ext (.rv 1 8 (z0)) [T 20,T 21]),V 23 0,O 24 (N 23),O 25 (.ext (.sliceB 1 false true) [T 22,T 24]),V 0 25]) .skip))) (M [V 26 0,V 4 26] .ret)))),res:=[.tmp 4]}
theorem aah:g' Tryz.prog 157 a157:=jU kI (F:=Tryz.f157) (by kernel_rfl) mixed (by kernel_rfl)
def a160:AF:=⟨35,(.seq (.region (some [[],[0],[],[2],[0,1],[0,1,2,3,4]]) [f 8 2 1 1,l 9 1 8,f 10 4 1 1,l 11 1 10,V 4 9,V 5 11]) (M [f 12 2 1 2,l 13 1 12,n 14 13,z 15 0] (W 0 15 14 16 1 34 (M [i 17 3 13 15,k 18 3 17,O 7 (.alloc true [.lit (.string ⟨#[]⟩),z0,.lit (.string ⟨#[]⟩)]),Q (S 3 7 18)] (.seq (M [f 19 2 1 7,l 20 1 19,O 21 (.arith .eql (T 20) (.av (.lit (.string ⟨#[]⟩))))] (K 21 (.seq (.region (some [[],[0],[0,1],[0,1,2],[],[4],[0,1,2,3],[0,1,2,3,4,5,6]]) [V 22 5,O 23 (.index 5 (T 22) (Z 0)),f 24 3 1 23,l 25 1 24,V 26 5,O 27 (.slice 5 (T 26) (some (Z 1)) none),V 4 25,V 5 27]) (.exit 1)) .skip)) (.seq (.seq (.aY [V 28 0,V 29 4,⟨some 30,none,.hC (T 28) [T 29]⟩,t 31 30]) (K 31 .ret .skip)) (J [V 32 4,c 33 32,V 4 33]))))))),[]⟩
def aai:=ck 160 a160 Tryz.f160
def D_:AF:=⟨26,(M [y 4 false] (.seq (M [V 6 0,n 7 6,V 8 1,n 9 8,X 10 .neq 7 9] (K 10 (M [y 4 false] .ret) .skip)) (.seq (M [z 5 0] (.block 0 (.loop (.seq (M [V 11 5,V 12 0,n 13 12,a 14 11 13] (K 14 .skip (.exit 0))) (.seq (.block 1 (.seq (.region (some [[],[],[0,1],[0,1,2],[],[],[4,5],[4,5,6],[0,1,2,3,4,5,6,7]]) [V 17 0,V 18 5,i 19 1 17 18,l 20 1 19,V 21 1,V 22 5,i 23 1 21 22,l 24 1 23,X 25 .neq 20 24]) (K 25 (M [y 4 false] .ret) .skip))) (J [V 15 5,c 16 15,V 5 16])))))) (M [y 4 true] .ret)))),[.tmp 4]⟩
def aaj:=ck 161 D_ Tryz.f161
def a162:AF:=⟨4,(M [O 1 (.box false (T 0)),O 2 (.ak (.av (.lit (.nilFunc))))] (M [O 3 (.func (.func 212) [] [T 1]),V 2 3] .ret)),[.tmp 2]⟩
def aak:=ck 162 a162 Tryz.f162
def D':AF:=⟨26,(M [z 4 0] (M [V 8 0,z 5 0,V 6 8] (.seq (.block 0 (.loop (.seq (M [V 9 5,V 10 6,a 11 9 10] (K 11 .skip (.exit 0))) (.block 1 (M [V 12 5,V 13 6,X 14 .add 12 13,O 15 (.conv .u64 (T 14)),O 16 (.ext (.shift false) [T 15,.av (.lit (.int .u64 1))]),O 17 (.conv .i64 (T 16)),V 7 17] (M [V 18 1,V 19 7,⟨some 20,none,.call (T 18) [T 19]⟩,t 21 20] (K 21 (J [V 22 7,c 23 22,V 5 23]) (J [V 24 7,V 6 24])))))))) (M [V 25 5,V 4 25] .ret)))),[.tmp 4]⟩
def aal:=ck 163 D' Tryz.f163
def a164:AF:=⟨11,(M [y 4 false] (.seq (.region (some [[],[],[],[1,2],[1,2,3],[0,1,2,3,4],[0,1,2,3,4,5]]) [l 5 1 1,l 6 1 2,V 7 0,i 8 5 6 7,k 9 5 8,⟨some 10,none,.call (T 5) [T 9]⟩,V 4 10]) .ret)),[.tmp 4]⟩
def aam:=ck 164 a164 Tryz.f164
def Ea:AF:=⟨19,(M [z 4 0] (.seq (M [V 6 0,n 7 6,z 8 0] (W 0 8 7 9 1 18 (M [V 10 8,V 5 10] (M [V 11 1,V 12 0,V 13 5,i 14 5 12 13,k 15 5 14,⟨some 16,none,.call (T 11) [T 15]⟩] (K 16 (M [V 17 5,V 4 17] .ret) .skip))))) (M [z 4 (-1)] .ret))),[.tmp 4]⟩
def aan:=ck 165 Ea Tryz.f165
def Eb:AF:=⟨18,(M [y 3 false] (M [l 5 1 1,V 6 0,C 7 167 [T 5,T 6],V 4 7] (M [l 8 1 1,V 9 0,m 10 1 9,w 11 1 16 8 10,Q (S 1 1 11)] (M [V 12 4,V 13 12,g 14 13 0,⟨some 15,some (13,false),.call (U 28) [T 14]⟩,G 16 13 (.not (T 15)),q 17 13 16,V 3 17] .ret)))),[.tmp 3]⟩
def aao:=ck 166 Eb Tryz.f166
def a167:AF:=⟨9,(M [y 4 false] (M [V 5 0,V 6 1,C 7 150 [T 5,T 6],R 8 .geq 7 0,V 4 8] .ret)),[.tmp 4]⟩
def aap:=ck 167 a167 Tryz.f167
def a168:AF:=⟨36,(M [O 2 (.ak (.av (.nil 5)))] (M [z 3 0] (.seq (M [V 9 0,n 10 9,z 11 0] (W 0 11 10 12 1 22 (M [i 13 1 9 11,l 14 1 13,V 5 14] (M [V 15 3,V 16 5,n 17 16,X 18 .add 15 17,V 3 18] (M [V 19 3,R 20 .lss 19 0] (K 20 (.aY [O 21 (.cQ 9 (.av (.lit (.string ⟨#[108,101,110,32,111,117,116,32,111,102,32,114,97,110,103,101]⟩)))),⟨none,none,.panic (T 21)⟩]) .skip)))))) (.seq (.aY [V 23 3,⟨some 24,none,.bl (U 213) [.av (.nil 5),T 23]⟩,V 6 24]) (.seq (M [V 25 0,n 26 25,z 27 0] (W 2 27 26 28 3 34 (M [i 29 1 25 27,l 30 1 29,V 8 30] (J [V 31 6,V 32 8,w 33 5 64 31 32,V 6 33])))) (M [V 35 6,V 2 35] .ret)))))),[.tmp 2]⟩
def aaq:=ck 168 a168 Tryz.f168
def Ec:AF:=⟨26,(M [y 4 false] (.seq (M [V 6 0,n 7 6,V 8 1,n 9 8,X 10 .neq 7 9] (K 10 (M [y 4 false] .ret) .skip)) (.seq (M [V 11 0,n 12 11,z 13 0] (W 0 13 12 14 1 25 (M [V 15 13,V 5 15] (.seq (.region (some [[],[],[0,1],[0,1,2],[],[],[4,5],[4,5,6],[0,1,2,3,4,5,6,7]]) [V 16 0,V 17 5,i 18 1 16 17,l 19 1 18,V 20 1,V 21 5,i 22 1 20 21,l 23 1 22,X 24 .neq 19 23]) (K 24 (M [y 4 false] .ret) .skip))))) (M [y 4 true] .ret)))),[.tmp 4]⟩
def aar:=ck 169 Ec Tryz.f169
def a171:AF:=⟨8,(M [V 4 0,t 5 4] (K 5 (.aY [V 6 1,O 7 (.cQ 34 (T 6)),⟨none,none,.panic (T 7)⟩]) .skip)),[]⟩
def aas:=ck 171 a171 Tryz.f171
def Ed:AF:=⟨6,(M [y 2 false] (M [V 3 0,C 4 28 [T 3],t 5 4,V 2 5] .ret)),[.tmp 2]⟩
def aat:=ck 172 Ed Tryz.f172
def a173:AF:=⟨25,(M [x 1 0,O 2 (.ak (.av (.nil 1)))] (M [f 5 0 1 1,l 6 1 5,n 7 6,c 8 7,O 9 (.ext (.oo 1 24 (.nil 1)) [T 8,T 8]),V 3 9] (.seq (M [V 10 3,O 11 (.ext .iO [T 10]),z 12 0] (W 0 12 11 13 1 23 (M [V 14 12,V 4 14] (J [V 15 3,V 16 4,f 17 1 1 1,l 18 1 17,n 19 18,c 20 19,O 21 (.ext (.oo 1 8 (z0)) [T 20,T 20]),O 22 (.ext (.fG 1) [T 15,T 16]),Q (S 1 22 21)])))) (M [V 24 3,V 2 24] .ret)))),[.tmp 2]⟩
def aau:=ck 173 a173 Tryz.f173
def a175:AF:=⟨4,(M [j 1 0,O 2 (.ak (.av (.lit (.nilFunc))))] (M [O 3 (.func (.func 214) [] [T 1]),V 2 3] .ret)),[.tmp 2]⟩
def aav:=ck 175 a175 Tryz.f175
def Ee:AF:=⟨43,(M [x 2 0,x 3 1,O 4 (.alloc true [z0,z0]),z 5 0,y 6 false] (.seq (.region (some [[],[0],[0,1],[],[3],[3,4],[0,1,2,3,4,5],[],[7],[],[9],[9,10],[7,8,9,10,11],[7,8,9,10,11,12],[7,8,9,10,11,12,13],[7,8,9,10,11,12,13,14],[7,8,9,10,11,12,13],[7,8,9,10,11,12,13,16],[7,8,9,10,11,12,13,16,17],[7,8,9,10,11,12,13,14,15,16,17,18],[7,8,9,10,11,12,13,14,15,16,17,18,19],[7,8,9,10,11,12,13,14,15,16,17,18,19,20],[7,8,9,10,11,12,13,14,15,16,17,18,19,20,21],[7,8,9,10,11,12,13,14,15,16,17,18,19,20,21,22],[7,8,9,10,11,12,13,14,15,16,17,18,19,20,21],[7,8,9,10,11,12,13,14,15,16,17,18,19,20,21,24],[7,8,9,10,11,12,13,14,15,16,17,18,19,20,21,22,23,24,25],[7,8,9,10,11,12,13,14,15,16,17,18,19,20,21,22,23,24,25,26],[7,8,9,10,11,12,13,14,15,16,17,18,19,20,21],[7,8,9,10,11,12,13,14,15,16,17,18,19,20,21,28],[7,8,9,10,11,12,13,14,15,16,17,18,19,20,21],[7,8,9,10,11,12,13,14,15,16,17,18,19,20,21,30],[7,8,9,10,11,12,13,14,15,16,17,18,19,20,21,28,29,30,31],[7,8,9,10,11,12,13,14,15,16,17,18,19,20,21,28,29,30,31,32],[7,8,9,10,11,12,13,14,15,16,17,18,19,20,21,22,23,24,25,26,27,28,29,30,31,32,33],[7,8,9,10,11,12,13,14,15,16,17,18,19,20,21,22,23,24,25,26,27,28,29,30,31,32,33,34],[0,1,2,3,4,5,6,7,8,9,10,11,12,13,14,15,16,17,18,19,20,21],[0,1,2,3,4,5,6,7,8,9,10,11,12,13,14,15,16,17,18,19,20,21,36],[0,1,2,3,4,5,6,7,8,9,10,11,12,13,14,15,16,17,18,19,20,21,22,23,24,25,26,27,28,29,30,31,32,33,34,35,36,37]]) [f 7 0 1 3,l 8 1 7,c 9 8,f 10 1 1 3,l 11 1 10,c 12 11,O 13 (.build [z0,z0] [(0,1,(T 9)),(1,1,(T 12))]),f 14 0 1 3,l 15 1 14,f 16 0 1 2,l 17 1 16,n 18 17,a 19 15 18,V 20 19,r 21 20 1 1 3,h 22 20 1 21,r 23 20 1 1 2,h 24 20 1 23,H 25 20 (N 24),H 26 20 (A .lss 22 25),p 27 20 26,V 28 27,r 29 28 0 1 2,h 30 28 1 29,r 31 28 0 1 3,h 32 28 1 31,H 33 28 (I 1 30 32),h 34 28 1 33,r 35 28 1 1 2,h 36 28 1 35,r 37 28 1 1 3,h 38 28 1 37,H 39 28 (I 1 36 38),h 40 28 1 39,H 41 28 (A .eql 34 40),p 42 28 41,Q (S 2 4 13),z 5 0,V 6 42]) .ret)),[.cell 4 2 true,.tmp 5,.tmp 6]⟩
def aaw:=ck 176 Ee Tryz.f176
def Ef:AF:=⟨43,(M [x 2 0,x 3 1,O 4 (.alloc true [z0,z0]),z 5 0,y 6 false] (.seq (.region (some [[],[0],[0,1],[],[3],[3,4],[0,1,2,3,4,5],[],[7],[],[9],[9,10],[7,8,9,10,11],[7,8,9,10,11,12],[7,8,9,10,11,12,13],[7,8,9,10,11,12,13,14],[7,8,9,10,11,12,13],[7,8,9,10,11,12,13,16],[7,8,9,10,11,12,13,16,17],[7,8,9,10,11,12,13,14,15,16,17,18],[7,8,9,10,11,12,13,14,15,16,17,18,19],[7,8,9,10,11,12,13,14,15,16,17,18,19,20],[7,8,9,10,11,12,13,14,15,16,17,18,19,20,21],[7,8,9,10,11,12,13,14,15,16,17,18,19,20,21,22],[7,8,9,10,11,12,13,14,15,16,17,18,19,20,21],[7,8,9,10,11,12,13,14,15,16,17,18,19,20,21,24],[7,8,9,10,11,12,13,14,15,16,17,18,19,20,21,22,23,24,25],[7,8,9,10,11,12,13,14,15,16,17,18,19,20,21,22,23,24,25,26],[7,8,9,10,11,12,13,14,15,16,17,18,19,20,21],[7,8,9,10,11,12,13,14,15,16,17,18,19,20,21,28],[7,8,9,10,11,12,13,14,15,16,17,18,19,20,21],[7,8,9,10,11,12,13,14,15,16,17,18,19,20,21,30],[7,8,9,10,11,12,13,14,15,16,17,18,19,20,21,28,29,30,31],[7,8,9,10,11,12,13,14,15,16,17,18,19,20,21,28,29,30,31,32],[7,8,9,10,11,12,13,14,15,16,17,18,19,20,21,22,23,24,25,26,27,28,29,30,31,32,33],[7,8,9,10,11,12,13,14,15,16,17,18,19,20,21,22,23,24,25,26,27,28,29,30,31,32,33,34],[0,1,2,3,4,5,6,7,8,9,10,11,12,13,14,15,16,17,18,19,20,21],[0,1,2,3,4,5,6,7,8,9,10,11,12,13,14,15,16,17,18,19,20,21,36],[0,1,2,3,4,5,6,7,8,9,10,11,12,13,14,15,16,17,18,19,20,21,22,23,24,25,26,27,28,29,30,31,32,33,34,35,36,37]]) [f 7 0 1 3,l 8 1 7,c 9 8,f 10 1 1 3,l 11 1 10,c 12 11,O 13 (.build [z0,z0] [(0,1,(T 9)),(1,1,(T 12))]),f 14 0 1 3,l 15 1 14,f 16 0 1 2,l 17 1 16,n 18 17,a 19 15 18,V 20 19,r 21 20 1 1 3,h 22 20 1 21,r 23 20 1 1 2,h 24 20 1 23,H 25 20 (N 24),H 26 20 (A .lss 22 25),p 27 20 26,V 28 27,r 29 28 0 1 2,h 30 28 1 29,r 31 28 0 1 3,h 32 28 1 31,H 33 28 (I 1 30 32),h 34 28 1 33,r 35 28 1 1 2,h 36 28 1 35,r 37 28 1 1 3,h 38 28 1 37,H 39 28 (I 1 36 38),h 40 28 1 39,H 41 28 (A .neq 34 40),p 42 28 41,Q (S 2 4 13),z 5 1,V 6 42]) .ret)),[.cell 4 2 true,.tmp 5,.tmp 6]⟩
def aax:=ck 177 Ef Tryz.f177
def Eg:AF:=⟨19,(M [x 2 0,x 3 1,O 4 (.alloc true [z0,z0]),z 5 0,y 6 false] (.seq (.region (some [[],[0],[0,1],[],[3],[0,1,2,3,4],[],[6],[],[8],[8,9],[6,7,8,9,10],[0,1,2,3,4,5],[0,1,2,3,4,5,12],[0,1,2,3,4,5,6,7,8,9,10,11,12,13]]) [f 7 0 1 3,l 8 1 7,c 9 8,f 10 1 1 3,l 11 1 10,O 12 (.build [z0,z0] [(0,1,(T 9)),(1,1,(T 11))]),f 13 0 1 3,l 14 1 13,f 15 0 1 2,l 16 1 15,n 17 16,a 18 14 17,Q (S 2 4 12),z 5 1,V 6 18]) .ret)),[.cell 4 2 true,.tmp 5,.tmp 6]⟩
def aay:=ck 178 Eg Tryz.f178
def Eh:AF:=⟨19,(M [x 2 0,x 3 1,O 4 (.alloc true [z0,z0]),z 5 0,y 6 false] (.seq (.region (some [[],[0],[],[2],[2,3],[0,1,2,3,4],[],[6],[],[8],[8,9],[6,7,8,9,10],[0,1,2,3,4,5],[0,1,2,3,4,5,12],[0,1,2,3,4,5,6,7,8,9,10,11,12,13]]) [f 7 0 1 3,l 8 1 7,f 9 1 1 3,l 10 1 9,c 11 10,O 12 (.build [z0,z0] [(0,1,(T 8)),(1,1,(T 11))]),f 13 1 1 3,l 14 1 13,f 15 1 1 2,l 16 1 15,n 17 16,a 18 14 17,Q (S 2 4 12),z 5 1,V 6 18]) .ret)),[.cell 4 2 true,.tmp 5,.tmp 6]⟩
def aaz:=ck 179 Eh Tryz.f179
def wv:AF:=⟨47,(M [l 7 1 1,n 8 7,z 9 0] (W 0 9 8 10 1 46 (M [i 11 2 7 9,k 12 2 11,O 4 (.alloc true [.lit (.string ⟨#[]⟩),.nil 1]),Q (S 2 4 12)] (.seq (.seq (.aY [V 13 0,f 14 0 1 4,l 15 1 14,⟨some 16,none,.hC (T 13) [T 15,Z 2]⟩,t 17 16]) (K 17 .ret .skip)) (M [f 18 1 1 4,l 19 1 18,n 20 19,z 21 0] (W 2 21 20 22 3 45 (M [V 23 21,i 24 1 19 21,l 25 1 24,V 5 23,V 6 25] (.seq (.aY [V 26 6,f 27 0 1 4,l 28 1 27,X 29 .neq 26 28,V 30 29,r 31 30 1 1 4,h 32 30 1 31,H 33 30 (.ak (T 5)),H 34 30 (.slice 1 (T 32) none (some (T 33))),H 35 30 (.ak (T 6)),⟨some 36,some (30,true),.call (U 167) [T 34,T 35]⟩,H 37 30 (.not (T 36)),p 38 30 37,V 39 38,H 40 39 (.ak (T 0)),H 41 39 (.ak (T 6)),⟨some 42,some (39,true),.hC (T 40) [T 41,Z 1]⟩,H 43 39 (.not (T 42)),p 44 39 43]) (K 44 .ret .skip))))))))),[]⟩
def Kp:=ck 180 wv Tryz.f180
def Ei:AF:=⟨13,(M [O 2 (.box false (T 0)),O 4 (.ak (.av (.nil 1)))] (.seq (M [V 6 1] (.block 0 (.range (T 6) [7] (J [V 5 7]) (.block 1 (J [l 8 1 2,V 9 5,m 10 1 9,w 11 1 8 8 10,Q (S 1 2 11)]))))) (M [l 12 1 2,V 4 12] .ret))),[.tmp 4]⟩
def aaA:=ck 181 Ei Tryz.f181
def a182:AF:=⟨29,(.block 0 (.loop (.seq (M [l 5 1 1,O 6 (.dH (T 5)),R 7 .gtr 6 0] (K 7 .skip (.exit 0))) (.block 1 (M [l 9 1 1,C 10 183 [T 9],V 8 10,e 11 8 0,e 12 8 1,V 3 11,V 4 12] (.seq (M [V 13 3,O 14 (.arith .eql (T 13) (.av (.lit (.int .i32 65533)))),V 15 14,H 16 15 (.ak (T 4)),b 17 15 .lss 16 2,p 18 15 17] (K 18 (.aY [O 19 (.build [] []),O 20 (.cQ 239 (T 19)),⟨none,none,.panic (T 20)⟩]) .skip)) (M [l 21 1 1,V 22 4,O 23 (.ov (T 21) (some (T 22)) none),Q (S 1 1 23)] (.seq (.aY [V 24 0,V 25 3,O 26 (.conv .i64 (T 25)),⟨some 27,none,.hC (T 24) [T 26]⟩,t 28 27]) (K 28 .ret .skip))))))))),[]⟩
def aaB:=ck 182 a182 Tryz.f182
def Ej:AF:=⟨15,(M [z 3 0,y 4 false] (M [l 8 1 1,V 9 0,O 10 (.ext (.lookup (.str) true (z0)) [T 8,T 9]),V 7 10,e 11 7 0,e 12 7 1,V 5 11,V 6 12] (M [V 13 5,V 14 6,V 3 13,V 4 14] .ret))),[.tmp 3,.tmp 4]⟩
def aaC:=ck 187 Ej Tryz.f187
def Kq:AF:=⟨48,(M [x 2 0,O 3 (.box false (T 1)),y 4 false] (M [O 9 (.func (.func 217) [] [T 3]),O 5 (.alloc false [.lit (.nilFunc)]),Q (S 1 5 9)] (M [O 10 (.func (.func 218) [] [T 5]),V 6 10] (M [O 11 (.func (.func 222) [] [T 5]),O 7 (.alloc false [.lit (.nilFunc)]),Q (S 1 7 11)] (M [O 12 (.func (.func 223) [] [T 5,T 7]),V 8 12] (.seq (.aY [f 13 0 1 2,l 14 1 13,C 15 219 [T 14],V 16 15,r 17 16 1 1 2,h 18 16 1 17,H 19 16 (N 18),b 20 16 .gtr 19 0,p 21 16 20,V 22 21,r 23 22 1 1 2,h 24 22 1 23,H 25 22 (.eg 1 [T 24]),⟨some 26,some (22,true),.call (U 221) [.av (.fn (.func 219) [] []),T 25]⟩,p 27 22 26,V 28 27,h 29 28 1 5,r 30 28 2 1 2,h 31 28 1 30,⟨some 32,some (28,true),.bl (T 29) [T 31]⟩,p 33 28 32,V 34 33,H 35 34 (.ak (T 6)),r 36 34 4 1 2,h 37 34 1 36,H 38 34 (.eg 1 [T 37]),⟨some 39,some (34,true),.bl (U 225) [T 35,T 38]⟩,p 40 34 39,V 41 40,H 42 41 (.ak (T 8)),r 43 41 5 1 2,h 44 41 1 43,H 45 41 (.eg 1 [T 44]),⟨some 46,some (41,true),.bl (U 226) [T 42,T 45]⟩,p 47 41 46,V 4 47]) .ret)))))),[.tmp 4]⟩
def aaD:=ck 188 Kq Tryz.f188
def a193:AF:=⟨54,(M [x 1 0,y 2 false] (.seq (M [f 3 0 1 1,l 4 1 3,R 5 .lss 4 0,V 6 5,v 7 6 0 1 1,u 8 6 1 7,s 9 6 .gtr 8 1048576,q 10 6 9,V 11 10,v 12 11 1 1 1,u 13 11 1 12,⟨some 14,some (11,false),.call (U 144) [T 13]⟩,G 15 11 (.not (T 14)),q 16 11 15,V 17 16,v 18 17 2 1 1,u 19 17 1 18,⟨some 20,some (17,false),.call (U 144) [T 19]⟩,G 21 17 (.not (T 20)),q 22 17 21,V 23 22,v 24 23 3 1 1,u 25 23 1 24,⟨some 26,some (23,false),.call (U 143) [T 25]⟩,G 27 23 (.not (T 26)),q 28 23 27,V 29 28,v 30 29 4 1 1,u 31 29 1 30,⟨some 32,some (29,false),.call (U 229) [T 31]⟩,G 33 29 (.not (T 32)),q 34 29 33] (K 34 (M [y 2 false] .ret) .skip)) (.seq (M [f 35 7 1 1,l 36 1 35] (K 36 (M [f 37 5 1 1,l 38 1 37,n 39 38,R 40 .eql 39 0,V 41 40,r 42 41 6 1 1,h 43 41 1 42,H 44 41 (.arith .eql (T 43) (.av (.lit (.string ⟨#[]⟩)))),p 45 41 44,V 2 45] .ret) .skip)) (M [f 46 5 1 1,l 47 1 46,C 48 229 [T 47],V 49 48,r 50 49 6 1 1,h 51 49 1 50,⟨some 52,some (49,true),.call (U 230) [T 51]⟩,p 53 49 52,V 2 53] .ret)))),[.tmp 2]⟩
def c193:=ck 193 a193 Tryz.f193
def a196:AF:=⟨43,(M [V 8 0,V 9 0,o 10 9,f 11 7 1 10,l 12 1 11,V 13 2,X 14 .add 12 13,O 15 (.hy false (T 14) (Z 1099511627777)),o 16 8,f 17 7 1 16,Q (S 1 17 15)] (M [V 18 0,o 19 18,f 20 0 1 19,l 21 1 20,t 22 21,V 23 22,g 24 23 1,g 25 23 0,G 26 23 (.ext .eD [T 25]),v 27 23 1 1 26,u 28 23 1 27,G 29 23 (A .lss 24 28),q 30 23 29] (K 30 (.aY [V 31 0,V 32 0,V 33 0,V 34 1,V 35 3,⟨some 36,none,.bl (T 35) []⟩,o 37 31,f 38 0 1 37,Q (.store 1 (T 38) (Y true)),o 39 32,f 40 1 1 39,Q (S 1 40 34),o 41 33,O 42 (F 2 5 true 41),Q (S 5 42 36)]) .skip))),[]⟩
def c196:=ck 196 a196 Tryz.f196
def wx:AF:=⟨9,(M [O 2 (.alloc true [z0,z0,z0,z0,.nil 5])] (M [l 3 1 0,f 4 1 1 1,l 5 1 4,f 6 2 1 1,l 7 1 6,O 8 (.build [z0,z0,z0,z0,.nil 5] [(0,1,(Z (-1))),(1,1,(T 3)),(2,1,(T 5)),(3,1,(T 7))]),Q (S 5 2 8)] .ret)),[.cell 2 5 true]⟩
def Kr:=ck 197 wx Tryz.f197
def a198:AF:=⟨13,(M [O 4 (.box false (T 0)),O 5 (.box false (T 1)),O 6 (.box false (T 2)),O 7 (.box false (T 3)),O 8 (.ak (.av (.lit (.nilFunc))))] (M [O 9 (.alloc false [.nil 1])] (M [O 10 (.alloc false [.lit (.nilFunc)])] (M [O 11 (.func (.func 233) [] [T 5,T 7,T 9,T 4,T 10]),Q (S 1 10 11)] (M [O 12 (.func (.func 234) [] [T 10,T 6]),V 8 12] .ret))))),[.tmp 8]⟩
def c198:=ck 198 a198 Tryz.f198
def Ek:AF:=⟨16,(M [z 4 0] (.seq (M [V 5 0,R 6 .gtr 5 0,V 7 6,H 8 7 (.ak (T 1)),H 9 7 (.ak (T 0)),H 10 7 (.arith .quo (Z 1099511627776) (T 9)),H 11 7 (A .gtr 8 10),p 12 7 11] (K 12 (M [z 4 1099511627777] .ret) .skip)) (M [V 13 0,V 14 1,X 15 .mul 13 14,V 4 15] .ret))),[.tmp 4]⟩
def aaE:=ck 199 Ek Tryz.f199
def sa:AF:=⟨11,(M [O 3 (.alloc true [z0,z0,z0,z0,.nil 5])] (M [l 4 1 0,f 5 1 1 1,l 6 1 5,f 7 2 1 1,l 8 1 7,l 9 1 2,O 10 (.build [z0,z0,z0,z0,.nil 5] [(0,1,(T 4)),(1,1,(Z (-1))),(2,1,(T 6)),(3,1,(T 8)),(4,1,(T 9))]),Q (S 5 3 10)] .ret)),[.cell 3 5 true]⟩
def Ks:=ck 200 sa Tryz.f200
def a212:AF:=⟨19,(M [l 4 1 1,n 5 4,R 6 .sub 5 1,V 3 6] (.block 0 (.loop (.seq (M [V 7 3,R 8 .geq 7 0] (K 8 .skip (.exit 0))) (.seq (.block 1 (.seq (.aY [V 11 0,V 12 3,l 13 1 1,V 14 3,i 15 5 13 14,k 16 5 15,⟨some 17,none,.hC (T 11) [T 12,T 16]⟩,t 18 17]) (K 18 .ret .skip))) (J [V 9 3,R 10 .sub 9 1,V 3 10])))))),[]⟩
def aaF:=ck 212 a212 Tryz.f212
def a213:AF:=⟨27,(M [O 4 (.ak (.av (.nil 5)))] (.seq (M [V 5 1,R 6 .lss 5 0] (K 6 (.aY [O 7 (.cQ 9 (.av (.lit (.string ⟨#[99,97,110,110,111,116,32,98,101,32,110,101,103,97,116,105,118,101]⟩)))),⟨none,none,.panic (T 7)⟩]) .skip)) (.seq (M [V 8 1,V 9 0,O 10 (.ext .mW [T 9]),V 11 0,n 12 11,X 13 .sub 10 12,X 14 .sub 8 13,V 1 14] (M [V 15 1,R 16 .gtr 15 0] (K 16 (J [V 17 0,V 18 0,O 19 (.ext .mW [T 18]),O 20 (.slice 5 (T 17) none (some (T 19))),V 21 1,O 22 (.ext (.oj 5 64) [T 20,T 21]),V 23 0,n 24 23,O 25 (.slice 5 (T 22) none (some (T 24))),V 0 25]) .skip))) (M [V 26 0,V 4 26] .ret)))),[.tmp 4]⟩
def aaG:=ck 213 a213 Tryz.f213
def El:AF:=⟨25,(M [f 5 0 1 1,l 6 1 5,n 7 6,V 3 7] (.block 0 (.loop (.seq (M [V 8 3,R 9 .geq 8 0] (K 9 .skip (.exit 0))) (.seq (.block 1 (M [f 12 1 1 1,l 13 1 12,n 14 13,V 4 14] (.block 2 (.loop (.seq (M [V 15 4,R 16 .geq 15 0] (K 16 .skip (.exit 2))) (.seq (.block 3 (.seq (.aY [V 19 0,V 20 3,V 21 4,O 22 (.build [z0,z0] [(0,1,(T 20)),(1,1,(T 21))]),⟨some 23,none,.hC (T 19) [T 22]⟩,t 24 23]) (K 24 .ret .skip))) (J [V 17 4,R 18 .sub 17 1,V 4 18]))))))) (J [V 10 3,R 11 .sub 10 1,V 3 11])))))),[]⟩
def aaH:=ck 214 El Tryz.f214
def Kt:AF:=⟨13,(M [y 3 false] (.seq (.aY [l 7 1 1,V 8 0,⟨some 9,none,.bl (T 7) [T 8]⟩,V 6 9,e 10 6 0,e 11 6 1,V 4 10,V 5 11]) (M [V 12 5,V 3 12] .ret))),[.tmp 3]⟩
def aaI:=ck 217 Kt Tryz.f217
def a218:AF:=⟨32,(M [x 2 0,y 3 false] (.seq (.aY [f 4 0 1 2,l 5 1 4,C 6 219 [T 5],V 7 6,h 8 7 1 1,r 9 7 1 1 2,h 10 7 1 9,⟨some 11,some (7,true),.bl (T 8) [T 10]⟩,p 12 7 11,V 13 12,r 14 13 3 1 2,h 15 13 1 14,H 16 13 (N 15),H 17 13 (.eg 1 [T 16]),⟨some 18,some (13,true),.call (U 220) [Z 1,Z 4,T 17]⟩,p 19 13 18,V 20 19,r 21 20 3 1 2,h 22 20 1 21,H 23 20 (.eg 1 [T 22]),⟨some 24,some (20,true),.call (U 221) [.av (.fn (.func 219) [] []),T 23]⟩,p 25 20 24,V 26 25,r 27 26 4 1 2,h 28 26 1 27,H 29 26 (.eg 1 [T 28]),⟨some 30,some (26,true),.call (U 220) [Z 0,Z 1000,T 29]⟩,p 31 26 30,V 3 31]) .ret)),[.tmp 3]⟩
def aaJ:=ck 218 a218 Tryz.f218
def Em:AF:=⟨11,(M [y 2 false] (M [V 3 0,C 4 230 [T 3],V 5 4,⟨some 6,some (5,true),.call (U 241) [.av (.lit (.string ⟨#[103,114,97,109,109,97,114,32,99,97,116,101,103,111,114,121,32,115,116,97,114,116,32,119,111,114,100,32,105,115,32,103,105,118,101,115,32,99,111,115,116,32,114,117,108,101]⟩))]⟩,H 7 5 (.ak (T 0)),⟨some 8,some (5,true),.call (U 167) [T 6,T 7]⟩,H 9 5 (.not (T 8)),p 10 5 9,V 2 10] .ret)),[.tmp 2]⟩
def aaK:=ck 219 Em Tryz.f219
def Eo:AF:=⟨11,(M [j 3 0,j 4 1,y 6 false] (M [O 7 (.func (.func 243) [] [T 3,T 4]),V 8 2,m 9 1 8,C 10 242 [T 7,T 9],V 6 10] .ret)),[.tmp 6]⟩
def aaL:=ck 220 Eo Tryz.f220
def Ep:AF:=⟨17,(M [j 2 0,y 4 false] (.seq (M [V 7 1,n 8 7,z 9 0] (W 0 9 8 10 1 16 (M [i 11 1 7 9,l 12 1 11,V 6 12] (.seq (.aY [V 13 6,O 14 (.func (.func 244) [] [T 2]),⟨some 15,none,.bl (U 29) [T 13,T 14]⟩]) (K 15 (M [y 4 false] .ret) .skip))))) (M [y 4 true] .ret))),[.tmp 4]⟩
def aaM:=ck 221 Ep Tryz.f221
def a222:AF:=⟨28,(M [x 2 0,y 3 false] (.seq (.aY [f 4 2 1 2,l 5 1 4,O 6 (.arith .eql (T 5) (.av (.lit (.string ⟨#[]⟩)))),V 7 6,h 8 7 1 1,r 9 7 0 1 2,h 10 7 1 9,⟨some 11,some (7,true),.bl (T 8) [T 10]⟩,p 12 7 11,V 13 12,v 14 13 2 1 2,u 15 13 1 14,G 16 13 (.arith .neq (T 15) (.av (.lit (.string ⟨#[]⟩)))),g 17 13 16,r 18 17 0 1 2,h 19 17 1 18,H 20 17 (.arith .eql (T 19) (.av (.lit (.string ⟨#[]⟩)))),G 21 13 (.pick (T 17) (T 20) (Y false)),g 22 13 21,r 23 22 2 1 2,h 24 22 1 23,⟨some 25,some (22,true),.call (U 219) [T 24]⟩,G 26 13 (.pick (T 22) (T 25) (Y false)),q 27 13 26,V 3 27]) .ret)),[.tmp 3]⟩
def aaN:=ck 222 a222 Tryz.f222
def Ku:AF:=⟨112,(M [x 3 0,y 4 false] (.seq (.seq (.aY [l 10 1 1,f 11 0 1 3,l 12 1 11,⟨some 13,none,.bl (T 10) [T 12]⟩,t 14 13,V 15 14,v 16 15 2 1 3,u 17 15 1 16,G 18 15 (N 17),G 19 15 (.eg 1 [T 18]),⟨some 20,some (15,false),.call (U 220) [Z 1,Z 4,T 19]⟩,G 21 15 (.not (T 20)),q 22 15 21,V 23 22,v 24 23 3 1 3,u 25 23 1 24,G 26 23 (N 25),G 27 23 (.eg 1 [T 26]),⟨some 28,some (23,false),.call (U 220) [Z 1,Z 8,T 27]⟩,G 29 23 (.not (T 28)),q 30 23 29,V 31 30,v 32 31 4 1 3,u 33 31 1 32,G 34 31 (.eg 1 [T 33]),⟨some 35,some (31,false),.call (U 220) [Z 0,Z 1000,T 34]⟩,G 36 31 (.not (T 35)),q 37 31 36,V 38 37,u 39 38 1 2,v 40 38 2 1 3,u 41 38 1 40,G 42 38 (.eg 1 [T 41]),⟨some 43,some (38,false),.bl (U 224) [T 39,T 42]⟩,G 44 38 (.not (T 43)),q 45 38 44]) (K 45 (M [y 4 false] .ret) .skip)) (M [f 46 2 1 3,l 47 1 46,n 48 47,O 49 (.ext (.oo 1 8 (z0)) [T 48,T 48]),V 5 49] (.seq (M [f 50 3 1 3,l 51 1 50,n 52 51,z 53 0] (W 0 53 52 54 1 86 (M [i 55 2 51 53,k 56 2 55,O 7 (.alloc true [z0,.lit (.string ⟨#[]⟩)]),Q (S 2 7 56)] (.block 2 (M [f 65 1 1 7,l 66 1 65,O 67 (.arith .neq (T 66) (.av (.lit (.string ⟨#[]⟩)))),V 64 67] (K 64 (M [f 68 0 1 7,l 69 1 68,R 70 .neq 69 0,V 71 70,v 72 71 1 1 7,u 73 71 1 72,⟨some 74,some (71,false),.call (U 219) [T 73]⟩,G 75 71 (.not (T 74)),q 76 71 75] (K 76 (M [y 4 false] .ret) .skip)) (M [V 78 5,O 79 (.ext .iO [T 78]),R 80 .sub 79 1,f 81 0 1 7,l 82 1 81,m 83 1 82,C 84 220 [Z 0,T 80,T 83],t 85 84,V 77 85] (K 77 (M [y 4 false] .ret) (J [V 57 5,f 58 0 1 7,l 59 1 58,O 60 (.ext (.fG 1) [T 57,T 59]),l 61 1 60,c 62 61,O 63 (.ext (.fG 1) [T 57,T 59]),Q (S 1 63 62)]))))))))) (.seq (M [f 87 2 1 3,l 88 1 87,n 89 88,z 90 0] (W 3 90 89 91 4 111 (M [V 92 90,i 93 3 88 90,k 94 3 93,O 9 (.alloc true [.lit (.string ⟨#[]⟩),z0,.lit (.string ⟨#[]⟩)]),V 8 92,Q (S 3 9 94)] (.seq (.region (some [[],[],[0,1],[0,1,2],[0,1,2,3],[],[5],[5,6],[0,1,2,3,4,5,6,7],[0,1,2,3,4,5,6,7,8],[0,1,2,3,4,5,6,7,8,9],[0,1,2,3,4,5,6,7,8,9],[0,1,2,3,4,5,6,7,8,9,10,11],[0,1,2,3,4,5,6,7,8,9,10,11,12],[0,1,2,3,4,5,6,7,8,9,10,11,12,13],[0,1,2,3,4,5,6,7,8,9,10,11,12,13,14]]) [V 95 5,V 96 8,O 97 (.ext (.fG 1) [T 95,T 96]),l 98 1 97,R 99 .eql 98 1,f 100 2 1 9,l 101 1 100,O 102 (.arith .eql (T 101) (.av (.lit (.string ⟨#[]⟩)))),O 103 (.ext (.rf true) [T 99,T 102]),V 104 103,g 105 104 5,g 106 104 8,G 107 104 (.ext (.fG 1) [T 105,T 106]),u 108 104 1 107,s 109 104 .gtr 108 1,q 110 104 109]) (K 110 (M [y 4 false] .ret) .skip))))) (M [y 4 true] .ret)))))),[.tmp 4]⟩
def aaO:=ck 223 Ku Tryz.f223
def Kv:AF:=⟨17,(M [O 2 (.box false (T 0)),y 4 false] (.seq (M [V 7 1,n 8 7,z 9 0] (W 0 9 8 10 1 16 (M [i 11 1 7 9,l 12 1 11,V 6 12] (.seq (.aY [V 13 6,O 14 (.func (.func 246) [] [T 2]),⟨some 15,none,.bl (U 245) [T 13,T 14]⟩]) (K 15 (M [y 4 false] .ret) .skip))))) (M [y 4 true] .ret))),[.tmp 4]⟩
def aaP:=ck 224 Kv Tryz.f224
def Kw:AF:=⟨17,(M [O 2 (.box false (T 0)),y 4 false] (.seq (M [V 7 1,n 8 7,z 9 0] (W 0 9 8 10 1 16 (M [i 11 1 7 9,l 12 1 11,V 6 12] (.seq (.aY [V 13 6,O 14 (.func (.func 248) [] [T 2]),⟨some 15,none,.bl (U 247) [T 13,T 14]⟩]) (K 15 (M [y 4 false] .ret) .skip))))) (M [y 4 true] .ret))),[.tmp 4]⟩
def aaQ:=ck 225 Kw Tryz.f225
def a226:AF:=⟨17,(M [O 2 (.box false (T 0)),y 4 false] (.seq (M [V 7 1,n 8 7,z 9 0] (W 0 9 8 10 1 16 (M [i 11 1 7 9,l 12 1 11,V 6 12] (.seq (.aY [V 13 6,O 14 (.func (.func 249) [] [T 2]),⟨some 15,none,.bl (U 228) [T 13,T 14]⟩]) (K 15 (M [y 4 false] .ret) .skip))))) (M [y 4 true] .ret))),[.tmp 4]⟩
def aaR:=ck 226 a226 Tryz.f226
def a228:AF:=⟨9,(M [y 4 false] (.seq (.aY [V 5 0,V 6 1,⟨some 7,none,.bl (U 250) [T 5,T 6]⟩,R 8 .geq 7 0,V 4 8]) .ret)),[.tmp 4]⟩
def aaS:=ck 228 a228 Tryz.f228
def a229:AF:=⟨18,(M [y 2 false] (M [O 3 (.ak (U 251))] (.seq (.aY [V 4 0,n 5 4,O 6 (.arith .leq (Z 1) (T 5)),V 7 6,H 8 7 (.ak (T 0)),H 9 7 (N 8),b 10 7 .leq 9 4,p 11 7 10,V 12 11,H 13 12 (.ak (T 0)),H 14 12 (.ak (T 3)),⟨some 15,some (12,true),.bl (U 29) [T 13,T 14]⟩,H 16 12 (.not (T 15)),p 17 12 16,V 2 17]) .ret))),[.tmp 2]⟩
def aaT:=ck 229 a229 Tryz.f229
def yN:AF:=⟨38,(M [y 2 false] (.seq (M [V 5 0,O 6 (.arith .eql (T 5) (.av (.lit (.string ⟨#[]⟩)))),V 7 6,g 8 7 0,G 9 7 (.dH (T 8)),s 10 7 .gtr 9 32,q 11 7 10,V 12 11,g 13 12 0,G 14 12 (.ext .pL [T 13,Z 0]),⟨some 15,some (12,false),.call (U 252) [T 14]⟩,s 16 12 .neq 15 2,q 17 12 16] (K 17 (M [y 2 false] .ret) .skip)) (.seq (M [V 18 0,O 19 (.dH (T 18)),z 20 0] (W 0 20 19 21 1 37 (M [V 22 20,V 3 22] (M [V 23 0,V 24 3,O 25 (.ext .pL [T 23,T 24]),C 26 252 [T 25],V 4 26] (M [V 27 4,R 28 .neq 27 2,V 29 28,H 30 29 (.ak (T 4)),b 31 29 .neq 30 3,p 32 29 31,V 33 32,H 34 33 (.ak (T 4)),b 35 33 .neq 34 5,p 36 33 35] (K 36 (M [y 2 false] .ret) .skip)))))) (M [y 2 true] .ret)))),[.tmp 2]⟩
def aaU:=ck 230 yN Tryz.f230
def a233:AF:=
{nt:=90,body:=(M [O 11 (.ak (Y false))] (M [O 14 (L 1 false 3),O 15 (N 14),V 16 0,O 17 (A .sub 15 16),V 12 17] (.seq (.block 0 (M [V 19 12,O 20 (B .eql 19 0),V 18 20] (K 18 (.seq (.aY [V 21 1,O 22 (L 1 false 4),O 23 (A .neq 21 22),V 24 23,G 25 24 (.ak (T 2)),G 26 24 (L 1 false 5),⟨some 27,some (24,false),.hC (T 25) [T 26]⟩,O 28 (.pick (T 24) (Y true) (T 27)),V 11 28]) .ret) (M [O 30 (L 1 false 4),V 31 1,O 32 (A .sub 30 31),V 33 12,O 34 (A .lss 32 33),V 29 34] (K 29 (M [O 11 (.ak (Y true))] .ret) (M ([O 36 (L 1 false 3),V 37 0,O 38 (I 3 36 37),O 39 (F 2 1 false 38),O 40 (L 1 false 39),O 41 (.arith .neq (T 40) (.av (.lit (.string ⟨#[]⟩)))),V 35 41]) (K 35 (.seq (.mb [[],[0],[0,1],[0,1,2],[],[0,1,2,3,4],[],[],[6,7],[6,7,8],[6,7,8,9],[0,1,2,3,4,5,6,7,8,9,10],[0,1,2,3,4,5,6,7,8,9,10,11],[0,1,2,3,4,5,6,7,8,9,10,11,12],[0,1,2,3,4,5,6,7,8,9,10,11,12,13],[0,1,2,3,4,5,6,7,8,9,10,11,12,13],[0,1,2,3,4,5,6,7,8,9,10,11,12,13,15],[0,1,2,3,4,5,6,7,8,9,10,11,12,13],[0,1,2,3,4,5,6,7,8,9,10,11,12,13,17],[0,1,2,3,4,5,6,7,8,9,10,11,12,13],[0,1,2,3,4,5,6,7,8,9,10,11,12,13,14,15,16,17,18,19],[0,1,2,3,4,5,6,7,8,9,10,11,12,13,14,15,16,17,18,19,20],[0,1,2,3,4,5,6,7,8,9,10,11,12,13,14,15,16,17,18,19,20,21]] 20 [O 42 (L 1 false 6),O 43 (.ext .eD [T 42]),O 44 (F 9 1 false 43),O 45 (L 1 false 44),V 46 1,O 47 (.ext (.lookup (.int .i64) false (.nil 1)) [T 45,T 46]),O 48 (L 1 false 3),V 49 0,O 50 (I 3 48 49),O 51 (F 2 1 false 50),O 52 (L 1 false 51),C 53 167 [T 47,T 52],O 54 (.not (T 53)),V 55 54,G 56 55 (L 1 false 7),G 57 55 (.ak (T 0)),G 58 55 (B .add 57 1),G 59 55 (.ak (T 1)),G 60 55 (B .add 59 1),G 61 55 (.ak (T 2)),⟨some 62,some (55,false),.bl (T 56) [T 58,T 60,T 61]⟩,O 63 (.pick (T 55) (Y true) (T 62)),V 11 63]) .ret) .skip))))))) (.seq (M [V 64 1,O 65 (B .add 64 1),V 13 65] (.block 1 (.loop (.seq (M [V 66 13,O 67 (L 1 false 4),V 68 12,O 69 (A .sub 67 68),O 70 (B .add 69 1),O 71 (A .leq 66 70)] (K 71 .skip (.exit 1))) (.seq (.block 2 (M ([O 74 (L 1 false 5),V 75 13,O 76 (.ext (.lY 1) [T 75]),O 77 (.ext (.pushB 1 8) [T 74,T 76]),Q (S 1 5 77)]) (.seq (.seq (.aY [O 78 (L 1 false 7),V 79 0,O 80 (B .add 79 1),V 81 13,V 82 2,⟨some 83,none,.bl (T 78) [T 80,T 81,T 82]⟩,O 84 (.not (T 83))]) (K 84 (M [O 11 (.ak (Y false))] .ret) .skip)) (J [O 85 (L 1 false 5),O 86 (L 1 false 5),O 87 (.ext .iO [T 86]),O 88 (B .sub 87 1),O 89 (.ext (.sliceB 1 false true) [T 85,T 88]),Q (S 1 5 89)])))) (J [V 72 13,O 73 (B .add 72 1),V 13 73])))))) (M [O 11 (.ak (Y true))] .ret))))),res:=[.tmp 11]}
theorem Kx:g' Tryz.prog 233 a233:=jU kI (F:=Tryz.f233) (by kernel_rfl) mixed (by kernel_rfl)
def a234:AF:=⟨8,(.aY [l 4 1 1,l 5 1 2,V 6 0,⟨some 7,none,.bl (T 4) [Z 0,T 5,T 6]⟩]),[]⟩
def aaV:=ck 234 a234 Tryz.f234
def Er:AF:=⟨17,(M [j 2 0,y 4 false] (.seq (M [V 7 1,n 8 7,z 9 0] (W 0 9 8 10 1 16 (M [i 11 1 7 9,l 12 1 11,V 6 12] (M [V 13 6,O 14 (.func (.func 256) [] [T 2]),C 15 65 [T 13,T 14]] (K 15 (M [y 4 false] .ret) .skip))))) (M [y 4 true] .ret))),[.tmp 4]⟩
def aaW:=ck 242 Er Tryz.f242
def Es:AF:=⟨13,(M [y 4 false] (M [V 5 0,l 6 1 1,X 7 .geq 5 6,V 8 7,H 9 8 (.ak (T 0)),h 10 8 1 2,H 11 8 (A .leq 9 10),p 12 8 11,V 4 12] .ret)),[.tmp 4]⟩
def aaX:=ck 243 Es Tryz.f243
def Et:AF:=⟨8,(M [y 3 false] (M [l 4 1 1,V 5 0,⟨some 6,none,.call (T 4) [T 5]⟩,t 7 6,V 3 7] .ret)),[.tmp 3]⟩
def aaY:=ck 244 Et Tryz.f244
def Eu:AF:=⟨9,(M [y 4 false] (.seq (.aY [V 5 0,V 6 1,⟨some 7,none,.bl (U 257) [T 5,T 6]⟩,R 8 .geq 7 0,V 4 8]) .ret)),[.tmp 4]⟩
def aaZ:=ck 245 Eu Tryz.f245
def Ev:AF:=⟨8,(M [x 2 0,y 3 false] (.seq (.aY [l 4 1 1,k 5 3 2,⟨some 6,none,.bl (T 4) [T 5]⟩,t 7 6,V 3 7]) .ret)),[.tmp 3]⟩
def aa0:=ck 246 Ev Tryz.f246
def Ew:AF:=⟨9,(M [y 4 false] (.seq (.aY [V 5 0,V 6 1,⟨some 7,none,.bl (U 258) [T 5,T 6]⟩,R 8 .geq 7 0,V 4 8]) .ret)),[.tmp 4]⟩
def aa1:=ck 247 Ew Tryz.f247
def Ex:AF:=⟨8,(M [x 2 0,y 3 false] (.seq (.aY [l 4 1 1,k 5 5 2,⟨some 6,none,.bl (T 4) [T 5]⟩,t 7 6,V 3 7]) .ret)),[.tmp 3]⟩
def aa2:=ck 248 Ex Tryz.f248
def Ey:AF:=⟨8,(M [x 2 0,y 3 false] (.seq (.aY [l 4 1 1,k 5 5 2,⟨some 6,none,.bl (T 4) [T 5]⟩,t 7 6,V 3 7]) .ret)),[.tmp 3]⟩
def aa3:=ck 249 Ey Tryz.f249
def Ez:AF:=⟨19,(M [z 4 0] (.seq (M [V 6 0,n 7 6,z 8 0] (W 0 8 7 9 1 18 (M [V 10 8,V 5 10] (.seq (.aY [V 11 1,V 12 0,V 13 5,i 14 5 12 13,k 15 5 14,⟨some 16,none,.bl (T 11) [T 15]⟩]) (K 16 (M [V 17 5,V 4 17] .ret) .skip))))) (M [z 4 (-1)] .ret))),[.tmp 4]⟩
def aa4:=ck 250 Ez Tryz.f250
def EA:AF:=⟨6,(M [y 2 false] (M [V 3 0,C 4 28 [T 3],t 5 4,V 2 5] .ret)),[.tmp 2]⟩
def aa5:=ck 251 EA Tryz.f251
def EB:AF:=⟨47,(M [z 2 0] (.seq (.block 0 (M [V 4 0,O 5 (.arith .geq (T 4) (.av (.lit (.int .u8 97)))),V 6 5,H 7 6 (.ak (T 0)),H 8 6 (.arith .leq (T 7) (.av (.lit (.int .u8 122)))),p 9 6 8,V 10 9,g 11 10 0,G 12 10 (.arith .geq (T 11) (.av (.lit (.int .u8 65)))),g 13 10 12,H 14 13 (.ak (T 0)),H 15 13 (.arith .leq (T 14) (.av (.lit (.int .u8 90)))),G 16 10 (.pick (T 13) (T 15) (Y false)),q 17 10 16,V 3 17] (K 3 (M [z 2 2] .ret) (M [V 19 0,O 20 (.arith .geq (T 19) (.av (.lit (.int .u8 48)))),V 21 20,H 22 21 (.ak (T 0)),H 23 21 (.arith .leq (T 22) (.av (.lit (.int .u8 57)))),p 24 21 23,V 18 24] (K 18 (M [z 2 3] .ret) (M [V 26 0,O 27 (.arith .eql (T 26) (.av (.lit (.int .u8 95)))),V 25 27] (K 25 (M [z 2 5] .ret) (M [V 29 0,O 30 (.arith .eql (T 29) (.av (.lit (.int .u8 32)))),V 31 30,g 32 31 0,G 33 31 (.arith .eql (T 32) (.av (.lit (.int .u8 9)))),q 34 31 33,V 35 34,g 36 35 0,G 37 35 (.arith .eql (T 36) (.av (.lit (.int .u8 10)))),q 38 35 37,V 39 38,g 40 39 0,G 41 39 (.arith .eql (T 40) (.av (.lit (.int .u8 13)))),q 42 39 41,V 28 42] (K 28 (M [z 2 1] .ret) (M [V 44 0,⟨some 45,none,.call (U 259) [.av (.lit (.string ⟨#[123,125,40,41,59,44,61,58,46,60,62,33,43,45,42,47]⟩)),T 44]⟩,R 46 .geq 45 0,V 43 46] (K 43 (M [z 2 4] .ret) .skip))))))))))) (M [z 2 0] .ret))),[.tmp 2]⟩
def aa6:=ck 252 EB Tryz.f252
def EC:AF:=⟨8,(M [y 3 false] (M [l 4 1 1,V 5 0,⟨some 6,none,.call (T 4) [T 5]⟩,t 7 6,V 3 7] .ret)),[.tmp 3]⟩
def aa7:=ck 256 EC Tryz.f256
def ED:AF:=⟨19,(M [z 4 0] (.seq (M [V 6 0,n 7 6,z 8 0] (W 0 8 7 9 1 18 (M [V 10 8,V 5 10] (.seq (.aY [V 11 1,V 12 0,V 13 5,i 14 3 12 13,k 15 3 14,⟨some 16,none,.bl (T 11) [T 15]⟩]) (K 16 (M [V 17 5,V 4 17] .ret) .skip))))) (M [z 4 (-1)] .ret))),[.tmp 4]⟩
def aa8:=ck 257 ED Tryz.f257
def EE:AF:=⟨19,(M [z 4 0] (.seq (M [V 6 0,n 7 6,z 8 0] (W 0 8 7 9 1 18 (M [V 10 8,V 5 10] (.seq (.aY [V 11 1,V 12 0,V 13 5,i 14 5 12 13,k 15 5 14,⟨some 16,none,.bl (T 11) [T 15]⟩]) (K 16 (M [V 17 5,V 4 17] .ret) .skip))))) (M [z 4 (-1)] .ret))),[.tmp 4]⟩
def aa9:=ck 258 EE Tryz.f258
end
section
open Go Go.Proofs.YtloccchppmffpaaGreatDoor.AL Go.Proofs Go.Shelf
def Tryz.Ky : Go.Shelf.Ren := ⟨fun | 197 => 183 | 260 => 215 | n => n, fun | 9 => 9 | 21 => 21 | 3 => 3 | 4 => 4 | 5 => 5 | 105 => 295 | 119 => 350 | 0 => 0 | 46 => 282 | 139 => 353 | 138 => 352 | n => n, fun | 3 => 0 | 4 => 1 | n => n⟩
theorem Tryz.Kz : Go.Proofs.Lays.n197 Tryz.prog Tryz.Ky := {
  mixed := by kernel_rfl
  f197 := Tryz.func183.trans (congrArg some (by kernel_rfl))
  f260 := Tryz.func215.trans (congrArg some (by kernel_rfl))
  t0 := Tryz.underlying0
  a0 := Tryz.isAgg0
  z0 := Tryz.sizeOf0
  v0 := Tryz.zeroValue0
  t3 := Tryz.underlying3
  a3 := Tryz.isAgg3
  z3 := Tryz.sizeOf3
  v3 := Tryz.zeroValue3
  t4 := Tryz.underlying4
  a4 := Tryz.isAgg4
  z4 := Tryz.sizeOf4
  v4 := Tryz.zeroValue4
  t5 := Tryz.underlying5
  a5 := Tryz.isAgg5
  z5 := Tryz.sizeOf5
  v5 := Tryz.zeroValue5
  t9 := Tryz.underlying9
  a9 := Tryz.isAgg9
  z9 := Tryz.sizeOf9
  v9 := Tryz.zeroValue9
  t21 := Tryz.underlying21
  a21 := Tryz.isAgg21
  z21 := Tryz.sizeOf21
  v21 := Tryz.zeroValue21
  t46 := Tryz.underlying282
  a46 := Tryz.isAgg282
  z46 := Tryz.sizeOf282
  v46 := Tryz.zeroValue282
  t105 := Tryz.underlying295
  a105 := Tryz.isAgg295
  z105 := Tryz.sizeOf295
  v105 := Tryz.zeroValue295
  t119 := Tryz.underlying350
  a119 := Tryz.isAgg350
  z119 := Tryz.sizeOf350
  t138 := Tryz.underlying352
  a138 := Tryz.isAgg352
  z138 := Tryz.sizeOf352
  v138 := Tryz.zeroValue352
  t139 := Tryz.underlying353
  a139 := Tryz.isAgg353
  z139 := Tryz.sizeOf353
  v139 := Tryz.zeroValue353
  g3 := by kernel_rfl
  g4 := by kernel_rfl }
def dS(s:ByteArray):D:=.lit (.string s)
theorem aa_(x:ByteArray):(dS x).cells=[dS x]:=rfl
theorem aa'(x:ByteArray):(dS x).one=true:=rfl
theorem aba{I:Addr->Prop}{w:World}(h:jH I w):Lib.Utf8Tabs 0 1 w:=by
 have m:=h (0,.agg ((List.range 256).map fun c=>.lit (.int .u8 (Lib.firstT c)))) (by simp [ti]);have f:=h (1,.agg ((List.range 16).flatMap fun i=>[.lit (.int .u8 (Lib.accLo i)),.lit (.int .u8 (Lib.accHi i))])) (by simp [ti]);have a:∀ {g:Nat}{b:List D},au I w (.ip (.agg b)) (.pointer (some ⟨g,0,none⟩))->∀ k v,b[k]?=some (.lit v)->w.cell? ⟨g,k,none⟩=some v:=by
  intro g b n k v j;cases n with
  | ip _ s q1 o p =>have e:=(o k _ j).2;have r:=p k _ j;rw [cc,bC] at e;rw [e];cases r;rfl
 refine⟨fun c q=>a m c _ (by simp [q]),fun i d=>?_⟩;have l:∀ i,i<16->((List.range 16).flatMap fun i=>[D.lit (.int .u8 (Lib.accLo i)),D.lit (.int .u8 (Lib.accHi i))])[2*i]?=some (.lit (.int .u8 (Lib.accLo i))) /\((List.range 16).flatMap fun i=>[D.lit (.int .u8 (Lib.accLo i)),D.lit (.int .u8 (Lib.accHi i))])[2*i+1]?=some (.lit (.int .u8 (Lib.accHi i))):=by
  intro i d;have:i=0\/i=1\/i=2\/i=3\/i=4\/i=5\/i=6\/i=7\/i=8\/i=9\/i=10\/i=11\/i=12\/i=13\/i=14\/i=15:=by omega
  rcases this with rfl | rfl | rfl | rfl | rfl | rfl | rfl | rfl | rfl | rfl | rfl | rfl | rfl | rfl | rfl | rfl <;> exact⟨rfl,rfl⟩
 exact⟨a f _ _ (l i d).1,a f _ _ (l i d).2⟩
theorem decode_le(s:ByteArray):(Lib.decodeGo s).1<=1114111/\(Lib.decodeGo s).2<=4:=by
 unfold Lib.decodeGo;split
 ·simp
 ·unfold Utf8.decode;simp only [Utf8.runeError,ge_iff_le];have b:=(s.get! (0+0)).toNat_lt;have a:∀ c,Utf8.valid c=true->c<=1114111:=fun c h=>by simp [Utf8.valid] at h;omega
  repeat' split
  all_goals first
   | (simp;done)
   | (refine⟨?_,by simp⟩;omega)
   | (rename_i h;simp at h;have:=a _ h.2;simp;omega)
theorem abb(s:ByteArray):PC 183 [dS s] (.ret (.af [.lit (.int .i32 (Lib.decodeGo s).1),dI (Lib.decodeGo s).2])):=by
 refine⟨⟨Tryz.f183,by kernel_rfl,by kernel_rfl,by kernel_rfl⟩,fun I w g p q l=>?_⟩;have b:g=#[.string s]:=by
  have j:=l.1;have m:=l.2 0 (dS s) (g[0]'(by rw [j];simp)) rfl (bb _);generalize r:g[0]'(by rw [j];simp)=x at m;cases m;apply xG
  ·simpa using j
  ·intro i A n;have:i=0:=by simp at n;exact n
   subst this;simpa using r
 subst b;refine(Any.utf8_DecodeRuneInString Tryz.Kz s w (aba q)).mono fun e t u=>?_
 obtain⟨y,d⟩:=u;have B:=decode_le s;have o:ct w t:=⟨d.os,d.tape,d.output,d.size,d.block⟩;refine⟨I,_,fun _ h=>h,fun _ h=>.inl h,fun a z=>?_,o,y,.af rfl fun k c v f b=>?_⟩
 ·have:=p a z;obtain⟨v,b⟩:=eI.1 this;rw [o.cell (d_ w _ b)];exact this
 ·match k with
  | 0=>simp at f b;subst f;subst b;exact .lit ⟨by simp [IntKind.min,IntKind.bits,IntKind.signed] <;> omega,by simp [IntKind.max,IntKind.bits,IntKind.signed] <;> omega⟩
  | 1=>simp at f b;subst f;subst b;exact .lit ⟨by simp [IntKind.min,IntKind.bits,IntKind.signed] <;> omega,by simp [IntKind.max,IntKind.bits,IntKind.signed] <;> omega⟩
  | k+2=>simp at f
end
section
attribute [local simp] aa_ aa'
def rn:Nat->B8->Option (List Int)
 | 0,_=>some []
 | n+1,b=>if b=[] then some [] else
  if (Lib.decodeGo ⟨b.toArray⟩).1=65533/\(Lib.decodeGo ⟨b.toArray⟩).2<2 then none
  else (rn n (b.drop (Lib.decodeGo ⟨b.toArray⟩).2)).map (((Lib.decodeGo ⟨b.toArray⟩).1:Int)::·)
theorem EF(b:B8)(h:b≠[]):1<=(Lib.decodeGo ⟨b.toArray⟩).2/\(Lib.decodeGo ⟨b.toArray⟩).2<=b.length:=by
 unfold Lib.decodeGo;have a:(⟨b.toArray⟩:ByteArray).size=b.length:=by simp [ByteArray.size]
 have c:0<b.length:=sZ.2 h;rw [ab (by rw [a];omega)];unfold Utf8.decode;rw [a];simp only [Utf8.runeError,ge_iff_le,ax,bD]
 repeat' split
 all_goals simp_all
 all_goals omega
theorem EG:∀ (n:Nat) (b:B8),b.length<=n->rn n b=rn b.length b
 | 0,b,h=>by have:b=[]:=hV (by omega);subst this;rfl
 | n+1,b,h=>by
  by_cases a:b=[]
  ·subst a;rfl
  ·have d:0<b.length:=sZ.2 a;obtain⟨m,c⟩:∃ m,b.length=m+1:=⟨b.length-1,by omega⟩;have e:=EF b a;rw [c];simp only [rn,ab a];split
   ·rfl
   ·rw [EG n _ (by rw [jj];omega),EG m _ (by rw [jj];omega)]
theorem KC(b:B8)(a:b≠[]):rn b.length b=if (Lib.decodeGo ⟨b.toArray⟩).1=65533/\(Lib.decodeGo ⟨b.toArray⟩).2<2 then none
  else (rn (b.drop (Lib.decodeGo ⟨b.toArray⟩).2).length (b.drop (Lib.decodeGo ⟨b.toArray⟩).2)).map (((Lib.decodeGo ⟨b.toArray⟩).1:Int)::·):=by
 have d:0<b.length:=sZ.2 a;obtain⟨m,c⟩:∃ m,b.length=m+1:=⟨b.length-1,by omega⟩;have e:=EF b a
 conv=>lhs;rw [c]
 simp only [rn,ab a];split
 ·rfl
 ·rw [EG m _ (by rw [jj];omega)]
def mj(b:B8):List Int:=if 4096<b.length then [] else (rn b.length b).getD []
def nl(b:B8):Int:=if 4096<b.length then 2 else if (rn b.length b).isSome then 0 else 90
theorem oR(a b:Nat):aB (.nil a) (.sl b []):=fun _ _ _ h=>by cases h;exact .sl ⟨0,0,none⟩ (fun _=>undef) rfl (by simp) (by simp) (.inr rfl) (by simp) (by simp [D.flat]) (by simp [D.flat]) (by simp [D.flat])
def bs(b:B8):ByteArray:=⟨b.toArray⟩
theorem bS(b:B8):(bs b).size=b.length:=by simp [ByteArray.size,bs]
theorem qs(b:B8):(bs b).data.toList=b:=by simp [bs]
theorem abc(b:B8):PC 64 [dS (bs b)] (.ret (.af [.sl 1 ((mj b).map dI),dI (nl b)])):=by
 refine aG aH YR (by simp [a64]) fun z=>?_
 simp [a64,dS,bS];refine aK [] ?_;simp;refine⟨fun p=>?_,fun h=>?_⟩
 ·refine dQ (TR Tryz.prog a130) (gE DO) ?_;simp [a130];rw [bS] at p;have e:mj b=[]:=by unfold mj;rw [aj (by omega)]
  have f:nl b=2:=by unfold nl;rw [aj (by omega)]
  rw [e,f];exact⟨oR _ _,aB.refl _⟩
 ·refine aK [] ?_;simp;refine aV (TF Tryz.prog DP) (aR ZP) ?_;simp [DP];refine aV (TF Tryz.prog a131) (aR ZO) ?_;simp [a131];refine aK [] ?_;simp;refine aV (TF Tryz.prog Ei) (aR aaA) ?_;simp [Ei];refine h' (TF Tryz.prog a182) (aR aaB) rfl (by rfl) (fun l=>by rfl) (fun l=>?_);simp [a182];refine bm [0,1] (B8×List Int) (fun x=>[]) (fun x=>[(2,.box false [.d (.lit (.string (bs x.1)))]),(3,.box false [.own 6 1 (x.2.map dI)]),(6,.row)]) (fun x=>x.1.length+x.2.length<=b.length/\(rn x.1.length x.1).map (x.2++·)=rn b.length b) (fun x=>x.1.length) (b,[]) (by simp) ⟨[],[(6,1)],?_⟩ (fun x i=>?_)
  ·simp;intro x i;omega
  obtain⟨c,m⟩:=x;obtain⟨q,d⟩:=i;simp only at q d;simp [bS];refine⟨fun s=>?_,fun t=>?_⟩
  ·have g:c≠[]:=by rintro rfl;simp at s
   have n:=EF c g;have a:=KC c g;rw [bS] at h;change 1<=(Lib.decodeGo (bs c)).2/\(Lib.decodeGo (bs c)).2<=c.length at n;change rn c.length c=if (Lib.decodeGo (bs c)).1=65533/\(Lib.decodeGo (bs c)).2<2 then none else (rn (c.drop (Lib.decodeGo (bs c)).2).length (c.drop (Lib.decodeGo (bs c)).2)).map (((Lib.decodeGo (bs c)).1:Int)::·) at a
   have o:=decode_le (bs c);have j:=abb (bs c);generalize (Lib.decodeGo (bs c)).1=r at a o j;generalize (Lib.decodeGo (bs c)).2=k at a o n j;refine ah [.ret (.af [.lit (.int .i32 r),dI k])] ?_;simp;refine⟨j,ah [] ?_⟩;simp;refine⟨fun u=>⟨fun v=>aK [] ?_,fun v=>?_⟩,fun u=>?_⟩
   ·simp;rw [aj (by omega)] at a;refine dQ (TR Tryz.prog a130) (gE DO) ?_;simp [a130];have e:mj b=[]:=by unfold mj;rw [ab (by omega),<- d,a];rfl
    have f:nl b=90:=by unfold nl;rw [ab (by omega),<- d,a];rfl
    rw [e,f];exact⟨oR _ _,aB.refl _⟩
   all_goals
    have w:¬ (r=65533/\k<2):=by omega
    rw [ab w] at a;have y:IntKind.i64.wrap (r:Int)=r:=wrap64 (by omega);refine⟨by rw [bS];omega,aK [] ?_⟩;simp [y];refine⟨⟨by omega,by omega⟩,c.drop k,m++[(r:Int)],⟨by simp;omega,?_⟩,by simp;omega,[(6,8)],[],?_⟩
    ·rw [<- d,a];cases rn (c.drop k).length (c.drop k) <;> simp
    ·simp;refine⟨aP ?_,fun x i=>?_⟩
     ·rw [qs,bS,eK];rfl
     ·exact .inr ⟨by rw [ab (by omega)];rfl,by omega⟩
  ·have g:c=[]:=by first | exact t | exact hV (by omega)
   subst g;have e:mj b=m:=by rw [bS] at h;unfold mj;rw [ab (by omega),<- d];simp [rn]
   have f:nl b=0:=by rw [bS] at h;unfold nl;rw [ab (by omega),<- d];rfl
   refine dQ (TR Tryz.prog a130) (gE DO) ?_;simp [a130,e,f]
   done
def lC(a:List (Int×Int)):D:=.fn (.func 184) [] [.ip (.sl 2 (a.map fun r=>.agg [dI r.1,dI r.2]))]
theorem EH(a:List (Int×Int)):PC 135 [.sl 2 (a.map fun r=>.agg [dI r.1,dI r.2])] (.ret (lC a)):=by
 refine oM kC ZR (by simp [DR]) 4 fun b=>?_
 simp [DR,lC]
def EI:D:=.sl 2 [.agg [dI 1,.fn (.func 134) [] []],.agg [dI 2,lC [(48,57)]],.agg [dI 3,lC [(65,90),(97,122),(192,214),(216,246),(248,591),(880,1279)]],.agg [dI 4,lC [(1424,1983)]]]
theorem KD(a:List (Int×Int)):(lC a).cells=[lC a]:=rfl
theorem KE(a:List (Int×Int)):(lC a).one=true:=rfl
theorem abd(a:List (Int×Int)):(AV.d (lC a)).cg=true:=rfl
theorem abe:PC 66 [] (.ret EI):=by
 refine aG aH YS (by simp [a66]) fun a=>?_
 simp [a66];refine ah [.ret (lC [(48,57)]),.ret (lC [(65,90),(97,122),(192,214),(216,246),(248,591),(880,1279)]),.ret (lC [(1424,1983)])] ?_;simp [KD,KE,abd];exact⟨EH [(48,57)],EH [(65,90),(97,122),(192,214),(216,246),(248,591),(880,1279)],EH [(1424,1983)],aB.refl _⟩
def iW(r:Int):Bool:=decide (r=32\/r=9\/r=10\/r=13)
theorem space(r:Int):PC 134 [dI r] (.ret (dB (iW r))):=by
 refine aG aH ZQ (by simp [DQ]) fun d=>?_
 simp [DQ];refine ah [] ?_;simp [iW];exact⟨fun h=>aP (by simp [h]),fun a=>⟨fun h=>aP (by simp [h]),fun b=>⟨fun h=>aP (by simp [h]),fun c=>aP (by simp [a,b,c];rfl)⟩⟩⟩
def ub(l:List Int):Int:=match l.findIdx? iW with | some i=>i | none=>-1
theorem abf(l:List Int):PC 133 [.sl 1 (l.map dI),.fn (.func 134) [] []] (.ret (dI (ub l))):=by
 refine aG aH Kn (by simp [wu]) fun f=>?_
 have g:=(f (.sl 1 (l.map dI)) (by simp)).sl.1;simp at g;simp [wu];refine bm [0,1,7] Nat (fun i=>[(8,true,.d (dI i))]) (fun i=>[]) (fun i=>i<=l.length/\∀ j,(h:j<i)->(a:j<l.length)->iW l[j]=false) (fun i=>l.length-i) 0 (by simp) ⟨[],[],?_⟩ (fun i k=>?_)
 ·simp
 ·obtain⟨o,a⟩:=k;simp;refine⟨fun d=>?_,fun p=>?_⟩
  ·refine ah [.ret (dB (iW l[i]))] ?_;simp [d];refine⟨space l[i],fun c=>?_,fun c=>⟨i+1,⟨by omega,fun j b m=>?_⟩,by omega,[],[],?_⟩⟩
   ·apply aP;have:l.findIdx? iW=some i:=by rw [qZ];exact⟨d,c,fun j b=>by simp [a j b (by omega)]⟩
    simp [ub,this]
   ·by_cases e:j=i
    ·subst e;exact c
    ·exact a j (by omega) m
   ·rw [wrap64 (by omega)];simp
  ·apply aP;have:l.findIdx? iW=none:=by rw [te];intro x n;obtain⟨j,b,rfl⟩:=PM n;exact a j (by omega) b
   simp [ub,this]
theorem abg(l:List Int):decide (ub l ≥ 0)=l.any iW:=by
 unfold ub;split
 ·rename_i i h;rw [qZ] at h;obtain⟨a,b,_⟩:=h;have:l.any iW=true:=by rw [jE];exact⟨l[i],cN a,b⟩
  simp [this]
 ·rename_i h;rw [te] at h;have:l.any iW=false:=by rw [hv];intro x c;simp [h x c]
  simp [this]
theorem abh(l:List Int):PC 65 [.sl 1 (l.map dI),.fn (.func 134) [] []] (.ret (dB (l.any iW))):=by
 refine aG aH Kj (by simp [wo]) fun a=>?_
 simp [wo];refine ah [.ret (dI (ub l))] ?_;simp;exact⟨abf l,aP (by rw [<- abg])⟩
def bw(b:B8):Bool:=decide (0<b.length)&&decide (b.length<=64)&&(rn b.length b).isSome&&!((rn b.length b).getD []).any iW
theorem abi(b:B8):bw b=(decide (nl b=0)&&(decide (0<b.length)&&(decide ((b.length:Int)<=64)&&!(mj b).any iW))):=by
 unfold bw nl mj;by_cases h:4096<b.length
 ·have c:¬ b.length<=64:=by omega
  simp [h,c]
 ·by_cases a:(rn b.length b).isSome=true
  ·have d:decide ((b.length:Int)<=64)=decide (b.length<=64):=by rw [Hr];omega
   simp only [h,a,d,eM,eA];cases decide (0<b.length) <;> cases decide (b.length<=64) <;> simp
  ·simp [h,a]
theorem word(b:B8):PC 28 [dS (bs b)] (.ret (dB (bw b))):=by
 refine aG aH Yp (by simp [a28]) fun f=>?_
 simp [a28,dS];refine ah [.ret (.af [.sl 1 ((mj b).map dI),dI (nl b)])] ?_;simp;refine⟨abc b,ah [.ret EI,.ret (dB ((mj b).any iW))] ?_⟩;simp [bS,EI,KD,KE];rw [abi];refine⟨fun a=>⟨fun d=>⟨fun c=>⟨abe,abh _,aP (by simp [a,d,c])⟩,fun c=>aP ?_⟩,fun e=>aP (by simp [e])⟩,fun a=>aP (by simp [a])⟩;have:¬ (b.length:Int)<=64:=by omega
 simp [this]
end
section
def dT(b:B8):D:=.lit (.string (bs b))
structure Wd where
 t:B8
 f:Int
 u:Int
 s:Int
 a:List B8
 deriving DecidableEq,Inhabited
structure Sm where
 w:List Wd
 x:Int
 deriving DecidableEq
structure Op where
 k:Int
 a:Int
 c:Int
 w:List Wd
 deriving DecidableEq
def dW(x:Wd):D:=.agg [dT x.t,dI x.f,dI x.u,dI x.s,.sl 1 (x.a.map dT)]
def be(x:Sm):D:=.agg [.sl 5 (x.w.map dW),dI x.x]
def ek(x:Op):D:=.agg [dI x.k,dI x.a,dI x.c,.sl 5 (x.w.map dW)]
theorem cG(x:B8):(dT x).cells=[dT x]:=rfl
theorem cH(x:B8):(dT x).one=true:=rfl
theorem nm(x:Wd):(dW x).cells=[dT x.t,dI x.f,dI x.u,dI x.s,.sl 1 (x.a.map dT)]:=rfl
theorem np(x:Wd):(dW x).isAgg=true:=rfl
theorem nq(x:Wd):(AV.d (dW x)).cg=true:=rfl
theorem nr(x:Sm):(be x).cells=[.sl 5 (x.w.map dW),dI x.x]:=rfl
theorem ns(x:Sm):(be x).isAgg=true:=rfl
theorem nu(x:Sm):(AV.d (be x)).cg=true:=rfl
theorem oS(x:Op):(ek x).cells=[dI x.k,dI x.a,dI x.c,.sl 5 (x.w.map dW)]:=rfl
theorem oT(x:Op):(ek x).isAgg=true:=rfl
theorem oU(x:Op):(AV.d (ek x)).cg=true:=rfl
theorem uc(b:B8):dT b=.lit (.string (bs b)):=rfl
theorem cd(b:B8):(bs b).toList=b:=by rw [Lib.toList_data,qs]
theorem cI(b:B8)(a:List D):(dT b=.af a)=False:=by simp [dT]
theorem cJ(x:B8):(AV.d (dT x)).cg=true:=rfl
theorem cK(x:B8):(dT x).isAgg=false:=rfl
attribute [local simp] cK cI cJ cG cH cd bS cA
def iX(l:List B8)(v:B8):Int:=match l.findIdx? (fun x=>v == x) with | some i=>i | none=>-1
theorem yO(l:List B8)(v:B8):PC 150 [.sl 1 (l.map dT),dT v] (.ret (dI (iX l v))):=by
 refine aG aH aaa (by simp [DX]) fun f=>?_
 have g:=(f (.sl 1 (l.map dT)) (by simp)).sl.1;simp at g;simp [DX,uc v];refine bm [0,1,7] Nat (fun i=>[(8,true,.d (dI i))]) (fun i=>[]) (fun i=>i<=l.length/\∀ j,(h:j<i)->(a:j<l.length)->(v == l[j])=false) (fun i=>l.length-i) 0 (by simp) ⟨[],[],?_⟩ (fun i k=>?_)
 ·simp
 ·obtain⟨o,a⟩:=k;simp;refine⟨fun d=>?_,fun p=>?_⟩
  ·simp [d,uc];refine⟨fun c=>?_,fun c=>⟨i+1,⟨by omega,fun j b m=>?_⟩,by omega,[],[],?_⟩⟩
   ·apply aP;have:l.findIdx? (fun x=>v == x)=some i:=by rw [qZ];exact⟨d,by simpa using c,fun j b=>by simp [a j b (by omega)]⟩
    simp [iX,this]
   ·by_cases e:j=i
    ·subst e;simpa using c
    ·simpa using a j (by omega) m
   ·rw [wrap64 (by omega)];simp
  ·apply aP;have:l.findIdx? (fun x=>v == x)=none:=by rw [te];intro x n;obtain⟨j,b,rfl⟩:=PM n;exact a j (by omega) b
   simp [iX,this]
theorem abj(l:List B8)(v:B8):decide (0<=iX l v)=decide (v∈l):=by
 unfold iX;split
 ·rename_i i h;rw [qZ] at h;obtain⟨a,b,_⟩:=h;have:v∈l:=by
   have:v=l[i]:=by simpa using b
   rw [this];exact cN a
  simp [this]
 ·rename_i h;rw [te] at h;have:v ∉ l:=fun c=>by have:=h v c;simp at this
  simp [this]
theorem sb(l:List B8)(v:B8):PC 167 [.sl 1 (l.map dT),dT v] (.ret (dB (decide (v∈l)))):=by
 refine aG aH aap (by simp [a167]) fun a=>?_
 simp [a167,uc v];refine ah [.ret (dI (iX l v))] ?_;simp;exact⟨yO l v,aP (by rw [<- abj])⟩
def sc(x:Wd)(i:Nat):Bool:=decide (x.a.getD i []∈x.t::x.a.take i)||!bw (x.a.getD i [])
def ud(x:Wd):Bool:=(List.range x.a.length).all fun i=>!sc x i
def okW(x:Wd):Bool:=decide (0<=x.f)&&(decide (x.f<x.u)&&(decide (x.u<1099511627775)&&(bw x.t&&(decide (0<=x.s)&&(decide (x.s<64)&&(decide ((x.a.length:Int)<=4)&&ud x))))))
theorem oV(b:B8):PC 28 [dT b] (.ret (dB (bw b))):=word b
theorem right(x:Wd):PC 105 [dW x] (.ret (dB (okW x))):=by
 refine aG aH Zt (by simp [a105]) fun E=>?_
 simp [a105,dW];refine ah [] ?_;simp;refine⟨fun q1=>⟨fun g=>aK [.ret (dB (bw x.t))] ?_,fun g=>aK [] ?_⟩,fun q1=>aK [] ?_⟩
 ·simp;refine⟨fun k=>⟨oV x.t,fun l=>⟨fun n=>⟨fun o=>⟨fun p=>?_,fun p=>?_⟩,fun o=>?_⟩,fun n=>?_⟩,fun l=>?_⟩,fun k=>?_⟩
  ·refine aV (TF Tryz.prog a29) (aR CR) ?_;simp [a29];refine aK [] ?_;simp;refine aV (TF Tryz.prog a67) (aR Db) ?_;simp [a67];have F:x.a.length<=4:=by omega
   refine bm [0,1,7] (Nat×Bool) (fun y=>[(8,true,.d (dI y.1))]) (fun y=>match y.2 with
     | false=>[(2,.box false [.own 1 1 ((x.t::x.a.take y.1).map dT)])]
     | true=>[(1,.dead),(2,.box false [.own 3 1 ((x.t::x.a.take y.1).map dT)]),(3,.row)]) (fun y=>y.1<=x.a.length/\∀ j,j<y.1->sc x j=false) (fun y=>x.a.length-y.1) (0,false) (by simp) ⟨[],[],?_⟩ (fun y w=>?_)
   ·simp;intro x q;omega
   obtain⟨i,z⟩:=y;obtain⟨A,d⟩:=w;simp only at A d;have B:x.a.length<=i->ud x=true:=fun r=>by unfold ud;rw [bQ];intro j s;rw [d j (by simp at s;omega)];rfl
   cases z
   all_goals
    simp;refine⟨fun a=>?_,fun r=>aP (by simp [okW,q1,g,k,l,n,o,p,B r])⟩;refine aK [] ?_;simp [a];refine aV (TF Tryz.prog Eb) (aR aao) ?_;simp [Eb];have t:=sb (x.t::x.a.take i) x.a[i];simp at t;have b:sc x i=(decide (x.a[i]=x.t\/x.a[i]∈x.a.take i)||!bw x.a[i]):=by simp [sc,a]
    generalize C:decide (x.a[i]=x.t\/x.a[i]∈x.a.take i)=m at b;refine ah [.ret (dB m)] ?_;simp;refine⟨by simpa [<- C] using t,⟨by omega,by omega⟩,ah [.ret (dB (bw x.a[i]))] ?_⟩;simp;have u:sc x i=true->okW x=false:=fun h=>by
     have:ud x=false:=by unfold ud;rw [Hs];exact⟨i,by simpa using a,by simp [h]⟩
     simp [okW,this]
    refine⟨fun c=>aP (by rw [u (by rw [b,c];rfl)]),fun c=>⟨oV x.a[i],fun f=>aP (by rw [u (by rw [b,c,f];rfl)]),fun f=>?_⟩⟩;have v:∀ j,j<i+1->sc x j=false:=fun j s=>by
     by_cases e:j=i
     ·rw [e,b,c,f];rfl
     ·exact d j (by omega)
    have D:IntKind.i64.wrap ((i:Int)+1)=((i+1:Nat):Int):=wrap64 (by omega);rw [D]
   ·refine⟨i+1,⟨by omega,v⟩,by omega,Or.inr ⟨[(3,4)],[],?_⟩⟩;simp [mS,a];exact fun x q=>.inr ⟨by rw [ab (by omega)];rfl,by omega⟩
   ·refine⟨i+1,⟨by omega,v⟩,by omega,Or.inr ⟨[(3,5)],[],?_⟩⟩;simp [mS,a];exact fun x q=>.inr ⟨by rw [ab (by omega)];rfl,by omega⟩
  all_goals exact aP (by congr 2;exact(PN.2 (fun h=>by simp [okW] at h;first | omega | simp_all)).symm)
 all_goals
  simp;exact aP (by congr 2;exact(PN.2 (fun h=>by simp [okW] at h;first | omega | simp_all)).symm)
noncomputable def abk(t:TypeId):Array Field:=match Tryz.prog.underlying t with
 | some (.struct a)=>a
 | _=>#[]
noncomputable def cZ(t:TypeId)(i:Nat):Field:=(abk t).getD i ⟨ "",0,0,false,"","",0⟩
theorem uWd:Tryz.prog.underlying 76=some (.struct #[cZ 76 0,cZ 76 1,cZ 76 2,cZ 76 3,cZ 76 4]):=by kernel_rfl
theorem uSm:Tryz.prog.underlying 39=some (.struct #[cZ 39 0,cZ 39 1]):=by kernel_rfl
theorem uOp:Tryz.prog.underlying 41=some (.struct #[cZ 41 0,cZ 41 1,cZ 41 2,cZ 41 3]):=by kernel_rfl
theorem KF:Tryz.prog.underlying 3=some (.int .i64):=by kernel_rfl
theorem KG:Tryz.prog.underlying 4=some .bool:=by kernel_rfl
theorem abl:Tryz.prog.underlying 9=some .string:=by kernel_rfl
theorem abm:Tryz.prog.underlying 27=some (.slice 9):=by kernel_rfl
theorem abn:Tryz.prog.underlying 37=some (.slice 76):=by kernel_rfl
theorem hG:Tryz.prog.cellsOf 3=1:=by kernel_rfl
theorem ml:Tryz.prog.cellsOf 9=1:=by kernel_rfl
theorem wy:Tryz.prog.cellsOf 27=1:=by kernel_rfl
theorem KH:Tryz.prog.cellsOf 37=1:=by kernel_rfl
theorem KI:Tryz.prog.cellsOf 76=5:=by kernel_rfl
theorem KJ:Tryz.prog.cellsOf 39=2:=by kernel_rfl
theorem KL:Tryz.prog.cellsOf 41=4:=by kernel_rfl
section
variable {H:Type}{enc:TypeId×Value->H}{w:World}
theorem hH:dR enc Tryz.prog w 3 dI:=Xt KF
theorem mm:dR enc Tryz.prog w 9 dT:=Xv abl
theorem wz:dR enc Tryz.prog w 27 (fun l:List B8=>.sl 1 (l.map dT)):=nk abm ml (fun _=>rfl) (fun y c a=>by simp [dT,D.cells] at a;subst a;rfl) mm
theorem shW:dR enc Tryz.prog w 76 dW:=me (mg uWd (by rw [KI];kernel_rfl)
 (cY (t:=9) (off':=1) (by kernel_rfl) (by kernel_rfl) (by rw [ml]) mm (cY (t:=3) (off':=2) (by kernel_rfl) (by kernel_rfl) (by rw [hG]) hH (cY (t:=3) (off':=3) (by kernel_rfl) (by kernel_rfl) (by rw [hG]) hH
 (cY (t:=3) (off':=4) (by kernel_rfl) (by kernel_rfl) (by rw [hG]) hH (cY (t:=27) (off':=5) (by kernel_rfl) (by kernel_rfl) (by rw [wy]) wz mf)))))) (fun y=>⟨⟨y.1,y.2.1,y.2.2.1,y.2.2.2.1,y.2.2.2.2.1⟩,rfl⟩)
theorem KM:dR enc Tryz.prog w 37 (fun l:List Wd=>.sl 5 (l.map dW)):=nk abn KI (fun _=>rfl) (fun y c a=>by simp [dW,D.cells] at a;rcases a with rfl | rfl | rfl | rfl | rfl <;> rfl) shW
theorem abo:dR enc Tryz.prog w 39 be:=me (mg uSm (by rw [KJ];kernel_rfl)
 (cY (t:=37) (off':=1) (by kernel_rfl) (by kernel_rfl) (by rw [KH]) KM (cY (t:=3) (off':=2) (by kernel_rfl) (by kernel_rfl) (by rw [hG]) hH mf))) (fun y=>⟨⟨y.1,y.2.1⟩,rfl⟩)
theorem abp:dR enc Tryz.prog w 41 ek:=me (mg uOp (by rw [KL];kernel_rfl)
 (cY (t:=3) (off':=1) (by kernel_rfl) (by kernel_rfl) (by rw [hG]) hH (cY (t:=3) (off':=2) (by kernel_rfl) (by kernel_rfl) (by rw [hG]) hH (cY (t:=3) (off':=3) (by kernel_rfl) (by kernel_rfl) (by rw [hG]) hH
 (cY (t:=37) (off':=4) (by kernel_rfl) (by kernel_rfl) (by rw [KH]) KM mf))))) (fun y=>⟨⟨y.1,y.2.1,y.2.2.1,y.2.2.2.1⟩,rfl⟩)
end
theorem abq(n:Sm):∀ c∈(be n).cells,c.one=true:=by intro c a;simp [be,D.cells] at a;rcases a with rfl | rfl <;> rfl
end
section
attribute [local simp] cK cI cJ cG cH cd bS nm np nq nr ns nu oS oT oU
def tE(n:Int):D:=.cQ 34 (dI n)
theorem ue(n:Int):PC 50 [dB true,dI n] (.ret (.af [])):=by
 refine aG aH Ki (by simp [wk]) fun a=>?_
 simp [wk]
theorem oW(n:Int):PC 50 [dB false,dI n] (.aQ (tE n)):=by
 refine aG aH Ki (by simp [wk]) fun a=>?_
 simp [wk];refine aK [] ?_;simp [tE]
def gO:Int->List Wd->Bool
 | _,[]=>true
 | l,x::r=>okW x&&(decide (l<=x.f)&&gO x.f r)
def bP(m:Sm):Int:=if (m.w.length:Int)<=4096 then (if 0<=m.x/\m.x<=m.w.length then (if gO 0 m.w=true then 0 else 170) else 170) else 2
def oE(n:Int):Out:=if n=0 then .ret (.af []) else .aQ (tE n)
theorem check(m:Sm):PC 48 [be m] (oE (bP m)):=by
 refine aG aH YE (by simp [CY]) (ho:=by unfold oE;split <;> rfl) fun h=>?_
 have i:=(h (be m) (by simp)).agg (.sl 5 (m.w.map dW)) (by simp [be]);have j:=i.2.sl.1;simp at j;simp [CY,be];by_cases q1:(m.w.length:Int)<=4096
 ·refine ah [.ret (.af [])] ?_;simp [q1];refine⟨ue 2,?_⟩;by_cases b:0<=m.x
  ·by_cases c:m.x<=m.w.length
   ·refine ah [.ret (.af [])] ?_;simp [b,c];refine⟨ue 170,?_⟩;refine bm [1,23,24] (Nat×Int) (fun y=>[(25,true,.d (dI y.1)),(2,true,.d (dI y.2))]) (fun y=>[]) (fun y=>y.1<=m.w.length/\gO y.2 (m.w.drop y.1)=gO 0 m.w) (fun y=>m.w.length-y.1) (0,0) (by simp) ⟨[],[],?_⟩ (fun y n=>?_)
    ·simp
    obtain⟨k,l⟩:=y;obtain⟨o,a⟩:=n;simp only at o a;simp;refine⟨fun e=>?_,fun p=>?_⟩
    ·simp [e];rw [fF e,gO] at a;have d:=right m.w[k];by_cases f:okW m.w[k]=true
     ·by_cases g:l<=m.w[k].f
      ·refine ah [.ret (dB true),.ret (.af [])] ?_;rw [f] at d a;simp [g,e] at a |-;refine⟨d,ue 170,k+1,m.w[k].f,⟨by omega,a⟩,by omega,[],[],?_⟩;rw [wrap64 (by omega)];simp [dW]
      ·refine ah [.ret (dB true),.aQ (tE 170)] ?_;rw [f] at d a;simp [g,e] at a |-;refine⟨d,oW 170,?_⟩;simp [oE,bP,q1,b,c,a]
     ·refine ah [.ret (dB false),.aQ (tE 170)] ?_;have f:okW m.w[k]=false:=by simpa using f
      rw [f] at d a;simp [e] at a |-;refine⟨d,oW 170,?_⟩;simp [oE,bP,q1,b,c,a]
    ·have:k=m.w.length:=by omega
     subst this;rw [oc,gO] at a;simp [oE,bP,q1,b,c,<- a]
   ·refine ah [.aQ (tE 170)] ?_;simp [b,c];refine⟨oW 170,?_⟩;simp [oE,bP,q1,b,c]
  ·refine ah [.aQ (tE 170)] ?_;simp [b];refine⟨oW 170,?_⟩;simp [oE,bP,q1,b]
 ·refine ah [.aQ (tE 2)] ?_;simp [q1];refine⟨oW 2,?_⟩;simp [oE,bP,q1]
theorem Check(m:Sm):PC 51 [be m] (.ret (dI (bP m))):=by
 refine aG aH c51 (by simp [a51]) fun b=>?_
 simp [a51];refine aK [] ?_;simp;have a:=check m;by_cases q:bP m=0
 ·refine ah [.ret (.af [])] ?_;simp [oE,q] at a |-;refine⟨a,?_⟩;refine dQ (TR Tryz.prog fq) (gE kK) ?_;simp [fq]
 ·refine ah [.aQ (tE (bP m))] ?_;simp [oE,q] at a |-;refine⟨a,?_⟩;refine dQ (TR Tryz.prog fq) (gE kK) ?_;simp [fq,tE]
def cB(l:List Wd):D:=.sl 5 (l.map dW)
theorem nv(l:List Wd):(cB l).cells=[cB l]:=rfl
theorem nw(l:List Wd):(cB l).one=true:=rfl
theorem ny(l:List Wd):(cB l).isAgg=false:=rfl
theorem nz(l:List Wd):(AV.d (cB l)).cg=true:=rfl
theorem nA(l:List Wd)(a:List D):(cB l=.af a)=False:=by simp [cB]
theorem nB(l:List Wd):cB l=.sl 5 (l.map dW):=rfl
attribute [local simp] nv nw ny nz nA
def cat(a:List (List Wd))(k:Nat):List Wd:=(a.take k).flatten
theorem EJ(a:List (List Wd)):cat a 0=[]:=by simp [cat]
theorem KN{a:List (List Wd)}{k:Nat}(h:k<a.length):cat a (k+1)=cat a k++a[k]:=by
 unfold cat;have:a.take (k+1)=a.take k++[a[k]]:=by rw [mS,aI h];rfl
 rw [this,Ht];simp
theorem KO(a:List (List Wd))(k:Nat):(cat a k).length<=(cat a a.length).length:=by
 unfold cat;rw [eK]
 conv=>rhs;rw [<- mP k a]
 rw [Ht,da];omega
theorem concat(a:List (List Wd))(q:(cat a a.length).length<=100000):PC 168 [.sl 1 (a.map cB)] (.ret (cB (cat a a.length))):=by
 refine aG aH aaq (by simp [a168]) fun g=>?_
 have i:=(g (.sl 1 (a.map cB)) (by simp)).sl.1;simp at i;simp [a168];refine bm [0,2,9,10] Nat (fun k=>[(11,true,.d (dI k)),(3,true,.d (dI (((cat a k).length:Nat):Int)))]) (fun k=>[]) (fun k=>k<=a.length) (fun k=>a.length-k) 0 (by simp) ⟨[],[],?_⟩ (fun k j=>?_)
 ·simp [EJ]
 simp;refine⟨fun b=>?_,fun l=>?_⟩
 ·simp [b,nB];have c:=KN b;have e:(cat a (k+1)).length=(cat a k).length+a[k].length:=by rw [c,da]
  have m:=KO a (k+1);rw [wrap64 (n:=((cat a k).length:Int)+a[k].length) (by omega)];refine⟨fun f=>by omega,fun _=>⟨k+1,by omega,by omega,[],[],?_⟩⟩;rw [wrap64 (by omega),e];simp
 ·have d:k=a.length:=by omega
  subst d;refine aK [] ?_;simp;refine aV (TF Tryz.prog a213) (aR aaG) ?_;simp [a213];refine⟨fun f=>absurd f (by omega),?_⟩;have o:IntKind.i64.wrap 0=0:=wrap64 (by omega);have p:IntKind.i64.wrap ((cat a a.length).length:Int)=(cat a a.length).length:=wrap64 (by omega);simp [o,p];have r:∀ x:Nat,x<0->False:=fun x h=>by omega
  refine⟨fun s=>⟨by omega,?_⟩,fun t=>?_⟩
  all_goals
   refine bm [0,25,26] Nat (fun k=>[(27,true,.d (dI k)),(6,true,.own 0 5 ((cat a k).map dW))]) (fun k=>[(0,.row)]) (fun k=>k<=a.length) (fun k=>a.length-k) 0 (by simp) (by first | (refine⟨[],[],?_⟩;simp [EJ];done) | (refine⟨[],[(0,5)],?_⟩;simp [EJ];done)) (fun k j=>?_);simp;refine⟨fun b=>?_,fun l=>?_⟩
   ·simp [b,nB];have c:=KN b;have e:(cat a (k+1)).length=(cat a k).length+a[k].length:=by rw [c,da]
    have m:=KO a (k+1);refine⟨⟨by omega,by omega⟩,k+1,by omega,by omega,[(0,1)],[],?_⟩;rw [wrap64 (by omega)];simp [c]
   ·have d:k=a.length:=by omega
    subst d;simp [nB]
    done
end
section
attribute [local simp] cK cI cJ cG cH cd bS cA nm np nq nr ns nu oS oT oU nv nw ny nz nA
theorem KP(a:List (List Wd))(b:(cat a a.length).length<=100000):PC 108 [.sl 1 (a.map cB)] (.ret (cB (cat a a.length))):=by
 refine aG aH Zw (by simp [Dy]) fun c=>?_
 simp [Dy];refine ah [.ret (cB (cat a a.length))] ?_;simp;exact concat a b
theorem oX{c:Type}{a b:List c}{k:Nat}(h:a.take k=b.take k)(d:k<a.length)(e:k<b.length)(f:a[k]=b[k]):a.take (k+1)=b.take (k+1):=by rw [mS,mS,h,aI d,aI e,f]
theorem oY{c:Type}{a b:List c}{k:Nat}(f:k<a.length)(g:k<b.length)(d:a[k]≠b[k]):a≠b:=fun e=>by subst e;exact d rfl
theorem eqT(a b:List B8):PC 169 [.sl 1 (a.map dT),.sl 1 (b.map dT)] (.ret (dB (decide (a=b)))):=by
 refine aG aH aar (by simp [Ec]) fun i=>?_
 have j:=(i (.sl 1 (a.map dT)) (by simp)).sl.1;simp at j;simp [Ec];refine⟨fun l=>aP ?_,fun n=>?_⟩
 ·have:a≠b:=fun e=>l (by rw [e])
  simp [this]
 ·refine bm [0,1,12] Nat (fun k=>[(13,true,.d (dI k))]) (fun k=>[]) (fun k=>k<=a.length/\a.take k=b.take k) (fun k=>a.length-k) 0 (by simp) ⟨[],[],?_⟩ (fun k c=>?_)
  ·simp
  obtain⟨o,d⟩:=c;simp;refine⟨fun f=>?_,fun p=>?_⟩
  ·have g:k<b.length:=by omega
   simp [f,g,uc];refine⟨rfl,fun h=>aP ?_,fun h=>⟨k+1,⟨by omega,oX d f g h⟩,by omega,[],[],?_⟩⟩
   ·simp [oY f g h]
   ·rw [wrap64 (by omega)];simp
  ·have c:k=a.length:=by omega
   subst c;have m:a.length=b.length:=by omega
   rw [eK,m,eK] at d;simp [d]
theorem abr(a b:List B8):PC 8 [.sl 1 (a.map dT),.sl 1 (b.map dT)] (.ret (dB (decide (a=b)))):=by
 refine aG aH c8 (by simp [a8]) fun i=>?_
 have j:=(i (.sl 1 (a.map dT)) (by simp)).sl.1;simp at j;simp [a8];refine⟨fun l=>aP ?_,fun n=>?_⟩
 ·have:a≠b:=fun e=>l (by rw [e])
  simp [this]
 ·refine bm [0,1] Nat (fun k=>[(5,true,.d (dI k))]) (fun k=>[]) (fun k=>k<=a.length/\a.take k=b.take k) (fun k=>a.length-k) 0 (by simp) ⟨[],[],?_⟩ (fun k c=>?_)
  ·simp
  obtain⟨o,d⟩:=c;simp;refine⟨fun f=>?_,fun p=>?_⟩
  ·have g:k<b.length:=by omega
   simp [f,g,uc];refine⟨rfl,fun h=>aP ?_,fun h=>⟨k+1,⟨by omega,oX d f g h⟩,by omega,[],[],?_⟩⟩
   ·simp [oY f g h]
   ·rw [wrap64 (by omega)];simp
  ·have c:k=a.length:=by omega
   subst c;have m:a.length=b.length:=by omega
   rw [eK,m,eK] at d;simp [d]
theorem abt(x y:Wd):decide (x=y)=(decide (x.t=y.t)&&(decide (x.f=y.f)&&(decide (x.u=y.u)&&(decide (x.s=y.s)&&decide (x.a=y.a))))):=by cases x;cases y;simp
theorem same(x y:Wd):PC 111 [dW x,dW y] (.ret (dB (decide (x=y)))):=by
 refine aG aH Zz (by simp [DA]) fun d=>?_
 simp [DA,dW];refine ah [.ret (dB (decide (x.a=y.a)))] ?_;simp [uc];rw [abt];refine⟨fun q1=>⟨fun a=>⟨fun b=>⟨fun c=>⟨eqT x.a y.a,aP (by simp [q1,a,b,c])⟩,fun c=>aP (by simp [c])⟩,fun b=>aP (by simp [b])⟩,fun a=>aP (by simp [a])⟩,fun q1=>aP (by simp [q1])⟩
theorem abu(x y:Wd):PC 111 [dW x,dW y] (.ret (dB (decide (x=y)))):=AL.dO.le (same x y) (rF aB.refl _)
theorem abv(a b:List Wd):PC 110 [cB a,cB b,.fn (.func 111) [] []] (.ret (dB (decide (a=b)))):=by
 refine aG aH Zy (by simp [Dz]) fun i=>?_
 have j:=(i (cB a) (by simp)).sl.1;simp at j;simp [Dz,nB];refine⟨fun l=>aP ?_,fun o=>?_⟩
 ·have:a≠b:=fun e=>l (by rw [e])
  simp [this]
 ·refine bm [0,1,2,15,16] Nat (fun k=>[(17,true,.d (dI k))]) (fun k=>[]) (fun k=>k<=a.length/\a.take k=b.take k) (fun k=>a.length-k) 0 (by simp) ⟨[],[],?_⟩ (fun k c=>?_)
  ·simp
  obtain⟨p,d⟩:=c;simp;refine⟨fun f=>?_,fun q=>?_⟩
  ·have g:k<b.length:=by omega
   simp [f,g];refine ah [.ret (dB (decide (a[k]=b[k])))] ?_;simp;have m:=abu a[k] b[k];refine⟨m,fun h=>aP ?_,fun h=>⟨k+1,⟨by omega,oX d f g h⟩,by omega,[],[],?_⟩⟩
   ·simp [oY f g h]
   ·rw [wrap64 (by omega)];simp
  ·have c:k=a.length:=by omega
   subst c;have n:a.length=b.length:=by omega
   rw [eK,n,eK] at d;simp [d]
def yP(o:Op):Bool:=decide (o.a=0)&&(decide (o.c=0)&&(decide (0<o.w.length)&&decide ((o.w.length:Int)<=64)))
theorem k1(s:Sm)(o:Op):PC 106 [be s,ek o] (.ret (dB (yP o))):=by
 refine aG aH Zu (by simp [Dx]) fun c=>?_
 simp [Dx,be,ek];refine ah [] ?_;simp [yP];exact⟨fun q1=>⟨fun a=>⟨fun b=>aP (by simp [q1,a,b]),fun b=>aP (by simp [b])⟩,fun a=>aP (by simp [a])⟩,fun q1=>aP (by simp [q1])⟩
theorem k6(s:Sm)(o:Op):PC 114 [be s,ek o] (.ret (be {s with x:=o.a})):=by
 refine aG aH ZC (by simp [DD]) fun a=>?_
 simp [DD,be,ek]
def wA(s:Sm)(o:Op):Bool:=decide (s.x<=o.a)&&(decide (o.a<=s.w.length)&&(decide (o.c=0)&&decide (o.w=[])))
theorem k5(s:Sm)(o:Op):PC 113 [be s,ek o] (.ret (dB (wA s o))):=by
 refine aG aH ZB (by simp [DC]) fun c=>?_
 simp [DC,be,ek];refine ah [] ?_;simp [wA];refine⟨fun q1=>⟨fun b=>⟨fun a=>aP ?_,fun a=>aP (by simp [a])⟩,fun b=>aP ?_⟩,fun q1=>aP ?_⟩
 ·cases d:o.w <;> simp [q1,b,a];omega
 ·simp [show ¬ o.a<=s.w.length by omega]
 ·simp [show ¬ s.x<=o.a by omega]
theorem k2(s:Sm)(o:Op)(b:s.w.length+o.w.length<=100000):PC 107 [be s,ek o] (.ret (be {s with w:=s.w++o.w})):=by
 refine aG aH Zv (by simp [a107]) fun c=>?_
 simp [a107,be,ek];have a:=KP [s.w,o.w] (by simp [cat];omega);refine ah [.ret (cB (s.w++o.w))] ?_;simp [cat] at a |-;exact⟨a,aP (by simp [cB])⟩
def lD(s:Sm)(o:Op):Bool:=decide (s.x<=o.a)&&(decide (o.a<=s.w.length)&&(decide (1<=o.c)&&(decide (o.c<=64)&&(decide (o.a+o.c<=s.w.length)&&(decide ((o.w.length:Int)<=64)&&!decide (o.w=(s.w.take (o.a+o.c).toNat).drop o.a.toNat))))))
theorem k3(s:Sm)(o:Op)(m:0<=s.x):PC 109 [be s,ek o] (.ret (dB (lD s o))):=by
 refine aG aH Zx (by simp [a109]) fun f=>?_
 have g:=(f (be s) (by simp)).agg (.sl 5 (s.w.map dW)) (by simp [be]);have i:=g.2.sl.1;simp at i;simp [a109,be,ek];refine ah [] ?_;simp;refine⟨fun q1=>aP ?_,fun q1=>⟨fun b=>aP ?_,fun b=>?_⟩⟩
 ·simp [lD,show ¬ s.x<=o.a by omega]
 ·simp [lD,show ¬ o.a<=s.w.length by omega]
 have j:IntKind.i64.wrap ((s.w.length:Int)-o.a)=s.w.length-o.a:=wrap64 (by omega);rw [j];refine⟨fun c=>aP ?_,fun c=>⟨fun a=>aP ?_,fun a=>?_⟩⟩
 ·simp [lD,show ¬ 1<=o.c by omega]
 ·have:¬ o.c<=64\/¬ o.a+o.c<=s.w.length:=by split at a <;> omega
  rcases this with h | h <;> simp [lD,h]
 have k:o.c<=64/\o.a+o.c<=s.w.length:=by split at a <;> omega
 refine⟨fun d=>aP ?_,fun d=>?_⟩
 ·simp [lD,show ¬ (o.w.length:Int)<=64 by omega]
 have l:IntKind.i64.wrap (o.a+o.c)=o.a+o.c:=wrap64 (by omega);have e:=abv o.w ((s.w.take (o.a+o.c).toNat).drop o.a.toNat);refine bY [.ret (dB (decide (o.w=(s.w.take (o.a+o.c).toNat).drop o.a.toNat)))] ?_;simp [cB] at e;simp [l];refine⟨⟨by omega,by omega,by omega⟩,e,rfl,aP ?_⟩;simp [lD,q1,b,c,k,d]
theorem k4(s:Sm)(o:Op)(b:0<=o.a)(g:0<=o.c)(c:o.a+o.c<=s.w.length)(h:s.w.length+o.w.length<=100000):PC 112 [be s,ek o] (.ret (be {s with w:=s.w.take o.a.toNat++(o.w++s.w.drop (o.a+o.c).toNat)})):=by
 refine aG aH ZA (by simp [DB]) fun i=>?_
 have a:=KP [s.w.take o.a.toNat,o.w,s.w.drop (o.a+o.c).toNat] (by simp [cat];omega);have d:IntKind.i64.wrap (o.a+o.c)=o.a+o.c:=wrap64 (by omega);simp [DB,be,ek];refine bY [.ret (cB (s.w.take o.a.toNat++(o.w++s.w.drop (o.a+o.c).toNat)))] ?_;simp [cat,cB] at a;have e:List.take s.w.length (List.map dW s.w)=List.map dW s.w:=by rw [<- db (f:=dW),eK]
 simp [d,e];exact⟨⟨b,by omega⟩,⟨by omega,c⟩,by simpa [cB] using a,rfl,aP (by simp [cB])⟩
def mn(n:Nat):D:=.fn (.func n) [] []
def nC:List (Value×D):=[(.int .i64 1,.agg [mn 106,mn 107]),(.int .i64 2,.agg [mn 109,mn 112]),(.int .i64 3,.agg [mn 113,mn 114])]
theorem kinds:PC 49 [] (.fa nC):=by
 refine aG aH c49 (by simp [a49]) fun a=>?_
 simp [a49,nC,mn]
def ft(s:Sm)(o:Op):Bool:=if o.k=1 then yP o else if o.k=2 then lD s o else if o.k=3 then wA s o else false
def next(s:Sm)(o:Op):Sm:=if o.k=1 then {s with w:=s.w++o.w} else if o.k=2 then {s with w:=s.w.take o.a.toNat++(o.w++s.w.drop (o.a+o.c).toNat)} else {s with x:=o.a}
def fv(s:Sm)(o:Op):Int:=if bP s=0 then (if ft s o=true then bP (next s o) else 170) else bP s
def dE(s:Sm)(o:Op):Sm:=if fv s o=0 then next s o else ⟨[],0⟩
theorem abw(s:Sm)(o:Op)(a:s.w.length+o.w.length<=100000):PC 107 [be s,ek o] (.ret (be {s with w:=s.w++o.w})):=k2 s o a
theorem abx(s:Sm)(o:Op)(a:0<=o.a)(b:0<=o.c)(c:o.a+o.c<=s.w.length)(d:s.w.length+o.w.length<=100000):PC 112 [be s,ek o] (.ret (be {s with w:=s.w.take o.a.toNat++(o.w++s.w.drop (o.a+o.c).toNat)})):=k4 s o a b c d
theorem aby(s:Sm)(o:Op):PC 114 [be s,ek o] (.ret (be {s with x:=o.a})):=k6 s o
theorem wB:aB (.agg [.nil 5,.lit (.int .i64 0)]) (be ⟨[],0⟩):=aB.agg (.cons (aB.nil 5) (.cons (aB.refl _) .nil)) (by simp)
theorem Do(s:Sm)(o:Op):PC 17 [be s,ek o] (.ret (.af [be (dE s o),dI (fv s o)])):=by
 refine aG aH Yj (by simp [a17]) fun D=>?_
 simp [a17];refine aK [] ?_;simp;refine aK [] ?_;simp;have m:=check s;by_cases q:bP s=0
 ·refine ah [.ret (.af [])] ?_;simp [oE,q] at m |-;refine⟨m,?_⟩;have u:s.w.length<=4096/\0<=s.x:=by
   unfold bP at q;split at q
   ·split at q
    ·rename_i E v;exact⟨by omega,v.1⟩
    ·simp at q
   ·simp at q
  have w:o.k=1->PC 106 [be s,ek o] (.ret (dB (ft s o))):=fun h=>by have:=k1 s o;simpa [ft,h] using this
  have x:o.k=2->PC 109 [be s,ek o] (.ret (dB (ft s o))):=fun h=>by have:=k3 s o u.2;simpa [ft,h] using this
  have y:o.k=3->PC 113 [be s,ek o] (.ret (dB (ft s o))):=fun h=>by have:=k5 s o;simpa [ft,h] using this
  have z:o.k=1->ft s o=true->PC 107 [be s,ek o] (.ret (be (next s o))):=fun h p=>by
   have t:o.w.length<=64:=by simp [ft,h,yP] at p;omega
   have:=abw s o (by omega);simpa [next,h] using this
  have A:o.k=2->ft s o=true->PC 112 [be s,ek o] (.ret (be (next s o))):=fun h p=>by
   have t:s.x<=o.a/\1<=o.c/\o.a+o.c<=s.w.length/\o.w.length<=64:=by simp [ft,h,lD] at p;omega
   have:=abx s o (by omega) (by omega) t.2.2.1 (by omega);simpa [next,h] using this
  have B:o.k=3->ft s o=true->PC 114 [be s,ek o] (.ret (be (next s o))):=fun h p=>by have:=aby s o;simpa [next,h] using this
  have n:ft s o=false->aB (.agg [.nil 5,.lit (.int .i64 0)]) (be (dE s o))/\fv s o=170:=fun p=>by
   have d:fv s o=170:=by simp [fv,q,p]
   have g:dE s o=⟨[],0⟩:=by simp [dE,d]
   rw [g];exact⟨wB,d⟩
  have e:=check (next s o);have C:(o.k=1/\((o.k == 1)=true))\/(o.k=2/\((o.k == 1)=false)/\((o.k == 2)=true))\/(o.k=3/\((o.k == 1)=false)/\((o.k == 2)=false)/\((o.k == 3)=true))\/(ft s o=false/\((o.k == 1)=false)/\((o.k == 2)=false)/\((o.k == 3)=false)):=by
   by_cases k1:o.k=1
   ·exact .inl ⟨k1,by simp [k1]⟩
   ·by_cases k2:o.k=2
    ·exact .inr (.inl ⟨k2,by simp [k2],by simp [k2]⟩)
    ·by_cases k3:o.k=3
     ·exact .inr (.inr (.inl ⟨k3,by simp [k3],by simp [k3],by simp [k3]⟩))
     ·exact .inr (.inr (.inr ⟨by simp [ft,k1,k2,k3],by simp [k1],by simp [k2],by simp [k3]⟩))
  rcases C with ⟨k,d⟩ | ⟨k,d,g⟩ | ⟨k,d,g,r⟩ | ⟨k,d,g,r⟩
  ·have c:=w k;have l:=z k;refine bY [.fa nC] ?_;simp [d,nC,mn];refine⟨kinds,rfl,?_⟩;by_cases p:ft s o=true
   ·rw [p] at c;refine ah [.ret (dB true),.ret (.af [])] ?_;simp;refine⟨c,ue 170,ah [.ret (be (next s o))] ?_⟩;simp;refine⟨l p,?_⟩;by_cases a:bP (next s o)=0
    ·have b:fv s o=0:=by simp [fv,q,p,a]
     have f:dE s o=next s o:=by simp [dE,b]
     rw [b,f];refine ah [.ret (.af [])] ?_;simp [oE,a] at e |-;refine⟨e,?_⟩;refine dQ (TR Tryz.prog fq) (gE kK) ?_;simp [fq];refine dQ (TD Tryz.prog a46) (jq mi) ?_;simp [a46];exact aB.refl _
    ·have b:fv s o=bP (next s o):=by simp [fv,q,p]
     have f:dE s o=⟨[],0⟩:=by simp [dE,b,a]
     rw [b,f];refine ah [.aQ (tE (bP (next s o)))] ?_;simp [oE,a] at e |-;refine⟨e,?_⟩;refine dQ (TR Tryz.prog fq) (gE kK) ?_;simp [fq,tE];refine dQ (TD Tryz.prog a46) (jq mi) ?_;simp [a46,a];exact wB
   ·have p:ft s o=false:=by simpa using p
    rw [p] at c;obtain⟨i,j⟩:=n p;refine ah [.ret (dB false),.aQ (tE 170)] ?_;simp;refine⟨c,oW 170,?_⟩;refine dQ (TR Tryz.prog fq) (gE kK) ?_;simp [fq,tE];refine dQ (TD Tryz.prog a46) (jq mi) ?_;simp [a46];exact⟨i,aP (by rw [j])⟩
  ·have c:=x k;have l:=A k;refine bY [.fa nC] ?_;simp [d,g,nC,mn];refine⟨kinds,rfl,?_⟩;by_cases p:ft s o=true
   ·rw [p] at c;refine ah [.ret (dB true),.ret (.af [])] ?_;simp;refine⟨c,ue 170,ah [.ret (be (next s o))] ?_⟩;simp;refine⟨l p,?_⟩;by_cases a:bP (next s o)=0
    ·have b:fv s o=0:=by simp [fv,q,p,a]
     have f:dE s o=next s o:=by simp [dE,b]
     rw [b,f];refine ah [.ret (.af [])] ?_;simp [oE,a] at e |-;refine⟨e,?_⟩;refine dQ (TR Tryz.prog fq) (gE kK) ?_;simp [fq];refine dQ (TD Tryz.prog a46) (jq mi) ?_;simp [a46];exact aB.refl _
    ·have b:fv s o=bP (next s o):=by simp [fv,q,p]
     have f:dE s o=⟨[],0⟩:=by simp [dE,b,a]
     rw [b,f];refine ah [.aQ (tE (bP (next s o)))] ?_;simp [oE,a] at e |-;refine⟨e,?_⟩;refine dQ (TR Tryz.prog fq) (gE kK) ?_;simp [fq,tE];refine dQ (TD Tryz.prog a46) (jq mi) ?_;simp [a46,a];exact wB
   ·have p:ft s o=false:=by simpa using p
    rw [p] at c;obtain⟨i,j⟩:=n p;refine ah [.ret (dB false),.aQ (tE 170)] ?_;simp;refine⟨c,oW 170,?_⟩;refine dQ (TR Tryz.prog fq) (gE kK) ?_;simp [fq,tE];refine dQ (TD Tryz.prog a46) (jq mi) ?_;simp [a46];exact⟨i,aP (by rw [j])⟩
  ·have c:=y k;have l:=B k;refine bY [.fa nC] ?_;simp [d,g,r,nC,mn];refine⟨kinds,rfl,?_⟩;by_cases p:ft s o=true
   ·rw [p] at c;refine ah [.ret (dB true),.ret (.af [])] ?_;simp;refine⟨c,ue 170,ah [.ret (be (next s o))] ?_⟩;simp;refine⟨l p,?_⟩;by_cases a:bP (next s o)=0
    ·have b:fv s o=0:=by simp [fv,q,p,a]
     have f:dE s o=next s o:=by simp [dE,b]
     rw [b,f];refine ah [.ret (.af [])] ?_;simp [oE,a] at e |-;refine⟨e,?_⟩;refine dQ (TR Tryz.prog fq) (gE kK) ?_;simp [fq];refine dQ (TD Tryz.prog a46) (jq mi) ?_;simp [a46];exact aB.refl _
    ·have b:fv s o=bP (next s o):=by simp [fv,q,p]
     have f:dE s o=⟨[],0⟩:=by simp [dE,b,a]
     rw [b,f];refine ah [.aQ (tE (bP (next s o)))] ?_;simp [oE,a] at e |-;refine⟨e,?_⟩;refine dQ (TR Tryz.prog fq) (gE kK) ?_;simp [fq,tE];refine dQ (TD Tryz.prog a46) (jq mi) ?_;simp [a46,a];exact wB
   ·have p:ft s o=false:=by simpa using p
    rw [p] at c;obtain⟨i,j⟩:=n p;refine ah [.ret (dB false),.aQ (tE 170)] ?_;simp;refine⟨c,oW 170,?_⟩;refine dQ (TR Tryz.prog fq) (gE kK) ?_;simp [fq,tE];refine dQ (TD Tryz.prog a46) (jq mi) ?_;simp [a46];exact⟨i,aP (by rw [j])⟩
  ·obtain⟨i,j⟩:=n k;refine bY [.fa nC] ?_;simp [d,g,r,nC,mn];refine⟨kinds,rfl,?_⟩;refine ah [.ret (.af []),.aQ (tE 170)] ?_;simp;refine⟨oW 170,?_⟩;refine dQ (TR Tryz.prog fq) (gE kK) ?_;simp [fq,tE];refine dQ (TD Tryz.prog a46) (jq mi) ?_;simp [a46];exact⟨i,aP (by rw [j])⟩
 ·have d:fv s o=bP s:=by simp [fv,q]
  have g:dE s o=⟨[],0⟩:=by simp [dE,d,q]
  rw [d,g];refine ah [.aQ (tE (bP s))] ?_;simp [oE,q] at m |-;refine⟨m,?_⟩;refine dQ (TR Tryz.prog fq) (gE kK) ?_;simp [fq,tE];refine dQ (TD Tryz.prog a46) (jq mi) ?_;simp [a46,q];exact wB
end
section
theorem hI{m:Sm}(h:bP m=0):m.w.length<=4096/\0<=m.x/\m.x<=m.w.length/\gO 0 m.w=true:=by
 unfold bP at h;split at h
 ·split at h
  ·rename_i c a;split at h
   ·rename_i b;exact⟨by omega,a.1,a.2,b⟩
   ·simp at h
  ·simp at h
 ·simp at h
theorem abz{m:Sm}(d:m.w.length<=4096)(a:0<=m.x)(b:m.x<=m.w.length)(c:gO 0 m.w=true):bP m=0:=by unfold bP;rw [aj (by omega),aj ⟨a,b⟩,aj c]
theorem EK{s:Sm}{o:Op}(h:fv s o=0):bP s=0/\ft s o=true/\bP (next s o)=0/\dE s o=next s o:=by
 have a:=h;unfold fv at h;split at h
 ·rename_i b;split at h
  ·rename_i c;exact⟨b,c,h,by simp [dE,a]⟩
  ·simp at h
 ·exact absurd h ‹_›
theorem KQ{s:Sm}{o:Op}(h:lD s o=true):s.x<=o.a/\o.a<=s.w.length/\1<=o.c/\o.c<=64/\o.a+o.c<=s.w.length/\(o.w.length:Int)<=64/\o.w≠(s.w.take (o.a+o.c).toNat).drop o.a.toNat:=by simp only [lD,ax,bD,ko,PO] at h;exact⟨h.1,h.2.1,h.2.2.1,h.2.2.2.1,h.2.2.2.2.1,h.2.2.2.2.2.1,h.2.2.2.2.2.2⟩
theorem KR{s:Sm}{o:Op}(h:wA s o=true):s.x<=o.a/\o.a<=s.w.length/\o.c=0/\o.w=[]:=by simp only [wA,ax,bD] at h;exact h
def eS(s:Sm)(p t:Int):Int:=if bP s=0 then (if 0<=p/\p<=1073741824 then (if 0<=t/\t<1099511627776 then 0 else 1) else 190) else bP s
theorem sd{s:Sm}{p t:Int}(h:eS s p t=0):bP s=0/\(0<=p/\p<=1073741824)/\0<=t/\t<1099511627776:=by
 unfold eS at h;split at h
 ·rename_i a;split at h
  ·rename_i b;split at h
   ·rename_i c;exact⟨a,b,c⟩
   ·simp at h
  ·simp at h
 ·exact absurd h ‹_›
theorem wC{s:Sm}{p t:Int}(a:bP s=0)(b:0<=p/\p<=1073741824)(c:0<=t/\t<1099511627776):eS s p t=0:=by simp [eS,a,b,c]
def eG(p t:Int)(x:Wd):Bool:=decide (x.u+p<=t)
def hb(s:Sm)(p t:Int)(o:Op):Bool:=decide (eS s p t=0)&&(decide (fv s o=0)&&(decide (o.k≠2)||(!(s.w.drop o.a.toNat).any (eG p t)&&!o.w.any (eG p t))))
def lo(p t:Int)(l:List Wd):Nat->Nat
 | 0=>0
 | i+1=>if eG p t (l.getD i default)=true then i+1 else lo p t l i
theorem lo_le(p t:Int)(l:List Wd):∀ n,lo p t l n<=n
 | 0=>bj 0
 | n+1=>by
  unfold lo;split
  ·exact bj _
  ·exact Nat.le_succ_of_le (lo_le p t l n)
theorem KS(p t:Int)(l:List Wd):∀ n i,i<n->eG p t (l.getD i default)=true->i<lo p t l n
 | 0,i,h,_=>by omega
 | n+1,i,h,a=>by
  unfold lo;split
  ·omega
  ·rename_i b;by_cases e:i=n
   ·subst e;exact absurd a b
   ·exact KS p t l n i (by omega) a
theorem EL(p t:Int)(l:List Wd):∀ n,lo p t l n=0\/eG p t (l.getD (lo p t l n-1) default)=true
 | 0=>.inl rfl
 | n+1=>by
  unfold lo;split
  ·rename_i h;exact .inr h
  ·exact EL p t l n
def eu(s:Sm)(p t:Int):Int:=if eS s p t=0 then max s.x (lo p t s.w s.w.length:Nat) else 0
theorem se{s:Sm}{p t:Int}(h:eS s p t=0):eu s p t=max s.x (lo p t s.w s.w.length:Nat)/\s.x<=eu s p t/\0<=eu s p t/\eu s p t<=s.w.length:=by
 have e:eu s p t=max s.x (lo p t s.w s.w.length:Nat):=by simp [eu,h]
 have a:=lo_le p t s.w s.w.length;obtain⟨_,b,c,_⟩:=hI (sd h).1;refine⟨e,?_,?_,?_⟩ <;> rw [e] <;> omega
theorem abA{p t a:Int}(h:t<=a)(x:Wd):eG p t x=true->eG p a x=true:=by simp [eG];omega
theorem KT{p q t t':Int}(a:∀ x,eG p t x=true->eG q t' x=true)(l:List Wd):∀ n,lo p t l n<=lo q t' l n
 | 0=>bj 0
 | n+1=>by
  have:=lo_le p t l n;have b:=KT a l n;unfold lo;split
  ·rename_i h;rw [aj (a _ h)];exact bj _
  ·split <;> omega
theorem getD_take{l:List Wd}{n i:Nat}(h:i<n):(l.take n).getD i default=l.getD i default:=by simp [List.getD,eh,h]
theorem abB{f:Wd->Bool}{l:List Wd}{k:Nat}(h:(l.drop k).any f=false){i:Nat}(c:k<=i)(a:i<l.length):f (l.getD i default)=false:=by
 rw [hv] at h;have b:l[i]∈l.drop k:=by rw [List.mem_drop_iff_getElem];exact⟨i-k,by omega,by congr 1;omega⟩
 have:=h _ b;simpa [List.getD,aI a] using this
theorem EM{s:Sm}{p t:Int}{o:Op}(h:hb s p t o=true):eS s p t=0/\fv s o=0/\(o.k=2->(s.w.drop o.a.toNat).any (eG p t)=false/\o.w.any (eG p t)=false):=by simp only [hb,ax,bD,gy,ko] at h;exact⟨h.1,h.2.1,fun a=>h.2.2.resolve_left (fun b=>b a)⟩
theorem KU{s:Sm}{p t:Int}{o:Op}(h:hb s p t o=true) :
  bP (dE s o)=0/\eu s p t<=eu (dE s o) p t/\(eu s p t<=(dE s o).w.length)/\(dE s o).w.take (eu s p t).toNat=s.w.take (eu s p t).toNat:=by
 obtain⟨d,j,k⟩:=EM h;obtain⟨l,a,e,c⟩:=EK j;obtain⟨f,A,B,m⟩:=se d;obtain⟨_,n,q⟩:=sd d;have r:eS (dE s o) p t=0:=wC (by rw [c];exact e) n q;obtain⟨u,C,D,E⟩:=se r;obtain⟨F,G,H,_⟩:=hI l;refine⟨by rw [c];exact e,?_⟩;have v:(eu s p t<=(dE s o).w.length)/\(dE s o).w.take (eu s p t).toNat=s.w.take (eu s p t).toNat/\s.x<=(dE s o).x:=by
  rw [c];unfold ft at a;unfold next
  split
  ·exact⟨by simp;omega,by simp only;rw [ahU (by omega)],iu _⟩
  ·rename_i k1;split
   ·rename_i k2;rw [ab k1,aj k2] at a;obtain⟨I,J,a3,a4,a5,a6,a7⟩:=KQ a;obtain⟨w,K⟩:=k k2;have L:eu s p t<=o.a:=by
     rw [f];have:(lo p t s.w s.w.length:Int)<=o.a:=by
      rcases EL p t s.w s.w.length with b | b
      ·omega
      ·have x:=lo_le p t s.w s.w.length;by_cases y:(lo p t s.w s.w.length:Int)<=o.a
       ·exact y
       ·have:=abB w (i:=lo p t s.w s.w.length-1) (by omega) (by omega);rw [this] at b;cases b
     omega
    refine⟨by simp;omega,?_,iu _⟩;simp only;rw [ahU (by simp;omega),PQ];congr 1;omega
   ·rename_i k2;rw [ab k1,ab k2] at a;split at a
    ·exact⟨by simpa using m,rfl,(KR a).1⟩
    ·cases a
 obtain⟨k1,k2,k3⟩:=v;refine⟨?_,k1,k2⟩;rw [u];have:(lo p t s.w s.w.length:Int)<=lo p t (dE s o).w (dE s o).w.length:=by
  rcases EL p t s.w s.w.length with b | b
  ·omega
  ·have x:=lo_le p t s.w s.w.length;by_cases M:lo p t s.w s.w.length=0
   ·omega
   ·have g:lo p t s.w s.w.length-1<(eu s p t).toNat:=by omega
    have z:(dE s o).w.getD (lo p t s.w s.w.length-1) default=s.w.getD (lo p t s.w s.w.length-1) default:=by rw [<- getD_take g,k2,getD_take g]
    have:=KS p t (dE s o).w (dE s o).w.length (lo p t s.w s.w.length-1) (by omega) (by rw [z];exact b);omega
 rw [f];omega
theorem abC{s:Sm}{a b c:Int}(h:eS s a b=0)(d:eS s a c=0)(e:b<=c):eu s a b<=eu s a c:=by rw [(se h).1,(se d).1];have:=KT (p:=a) (q:=a) (t:=b) (t':=c) (abA e) s.w s.w.length;omega
theorem uf:∀ (m:Int) (l:List Wd),gO m l=true->∀ x∈l,okW x=true
 | m,y::r,h,x,a=>by
  simp only [gO,ax] at h;rcases b_.1 a with e | e
  ·rw [e];exact h.1
  ·exact uf _ r h.2.2 x e
end
section
attribute [local simp] cK cI cJ cG cH cd bS cA nm np nq nr ns nu oS oT oU nv nw ny nz nA
theorem wD(x:Wd)(a:List D):(dW x=.af a)=False:=by simp [dW]
theorem two{a b c d:D}(e:aB a c)(f:aB b d):bH aB [a,b] [c,d]:=.cons e (.cons f .nil)
theorem KV{b:Nat}{d a:List D}(h:bH aB (D.flat d) (D.flat a))(i:d.length=a.length)(j:∀ e∈a,e.cells.length=b)(l:∀ c∈D.flat a,c.one=true):aB (.sl b d) (.sl b a):=fun I w v r=>by
 cases r with
 | sl m n o p q s z A t u =>
  refine .sl m n (o.trans i) p q (s.imp id fun e=>?_) j l (fun k c f=>?_) (fun k c f=>?_)
  ·subst e;exact hV (by rw [<- i];rfl)
  ·obtain⟨x,g,_⟩:=pW h f;exact t k x g
  ·obtain⟨x,g,y⟩:=pW h f;exact y _ _ _ (u k x g)
def dP(p:Int):D:=.agg [dI p]
theorem sf(p:Int):(dP p).cells=[dI p]:=rfl
theorem sg(p:Int):(dP p).isAgg=true:=rfl
theorem sh(p:Int):(AV.d (dP p)).cg=true:=rfl
attribute [local simp] sf sg sh
def ia(p t:Int):D:=.fn (.func 104) [] [.ip (dP p),.ip (dI t)]
theorem yQ(p t:Int):(ia p t).cells=[ia p t]:=rfl
theorem yR(p t:Int):(ia p t).isAgg=false:=rfl
theorem yS(p t:Int):(AV.d (ia p t)).cg=true:=rfl
theorem yT(p t:Int):(ia p t).one=true:=rfl
theorem yU(p t:Int):PC 45 [dP p,dI t] (.ret (ia p t)):=by
 refine oM kC YD (by simp [CX]) 4 fun a=>?_
 simp [CX,ia]
def kN(x:Wd):Prop:=-1099511627776<=x.u/\x.u<=1099511627776
def ug(p:Int):Prop:=0<=p/\p<=1073741824
theorem KW(p t:Int)(x:Wd)(a:kN x)(b:ug p):PC 104 [dW x,.ip (dP p),.ip (dI t)] (.ret (dB (eG p t x))):=by
 refine aG aH Zs (by simp [Dw]) fun d=>?_
 have c:IntKind.i64.wrap (x.u+p)=x.u+p:=wrap64 (by obtain⟨e,f⟩:=a;obtain⟨g,h⟩:=b;omega);simp [Dw,c];exact aB.refl _
def uh(f:Wd->Bool)(l:List Wd):Int:=match l.findIdx? f with | some i=>i | none=>-1
theorem abD(l:List Wd)(p t:Int)(g:∀ x∈l,kN x)(k:ug p):PC 165 [cB l,ia p t] (.ret (dI (uh (eG p t) l))):=by
 refine aG aH aan (by simp [Ea]) fun m=>?_
 have n:=(m (cB l) (by simp)).sl.1;simp at n;simp [Ea,nB,ia];refine bm [0,1,7] Nat (fun i=>[(8,true,.d (dI i))]) (fun i=>[]) (fun i=>i<=l.length/\∀ j,(h:j<i)->(a:j<l.length)->eG p t l[j]=false) (fun i=>l.length-i) 0 (by simp) ⟨[],[],?_⟩ (fun i o=>?_)
 ·simp
 obtain⟨s,a⟩:=o;simp;refine⟨fun b=>?_,fun u=>?_⟩
 ·have c:=KW p t l[i] (g _ (cN b)) k;cases d:eG p t l[i]
  ·rw [d] at c;refine ah [.ret (dB false)] ?_;simp [b];refine⟨c,i+1,⟨by omega,fun j f q=>?_⟩,by omega,[],[],?_⟩
   ·by_cases e:j=i
    ·subst e;exact d
    ·exact a j (by omega) q
   ·rw [wrap64 (by omega)];simp
  ·rw [d] at c;refine ah [.ret (dB true)] ?_;simp [b];refine⟨c,aP ?_⟩;have:l.findIdx? (eG p t)=some i:=by rw [qZ];exact⟨b,d,fun j f=>by simp [a j f (by omega)]⟩
   simp [uh,this]
 ·apply aP;have:l.findIdx? (eG p t)=none:=by rw [te];intro x r;obtain⟨j,f,rfl⟩:=PM r;exact a j (by omega) f
  simp [uh,this]
theorem abE(f:Wd->Bool)(l:List Wd):decide (0<=uh f l)=l.any f:=by
 unfold uh;split
 ·rename_i i h;rw [qZ] at h;obtain⟨a,b,_⟩:=h;have:l.any f=true:=jE.2 ⟨l[i],cN a,b⟩;rw [this];simp
 ·rename_i h;rw [te] at h;have:l.any f=false:=by rw [hv];exact fun x c=>by simp [h x c]
  rw [this];rfl
theorem abF(l:List Wd)(p t:Int)(a:∀ x∈l,kN x)(b:ug p):PC 103 [cB l,ia p t] (.ret (dB (l.any (eG p t)))):=by
 refine aG aH Zr (by simp [Dv]) fun c=>?_
 simp [Dv];refine ah [.ret (dI (uh (eG p t) l))] ?_;simp;exact⟨abD l p t a b,aP (by rw [abE])⟩
def qt:D:=.agg [.lit .nilFunc,.fn (.func 101) [] [],.fn (.func 102) [] [],.fn (.func 101) [] []]
theorem rules:PC 44 [] (.ret qt):=by
 refine aG aH YC (by simp [a44]) fun a=>?_
 simp [a44,qt]
theorem free(s:Sm)(o:Op)(p t:Int):PC 101 [be s,ek o,ia p t] (.ret (dB true)):=by
 refine aG aH Zp (by simp [Dt]) fun a=>?_
 simp [Dt]
inductive yV:FuncId->List D->Out->Prop
 | any (l:List Wd) (p t:Int) (hl:∀ x∈l,kN x) (hp:ug p):yV 103 [cB l,ia p t] (.ret (dB (l.any (eG p t))))
theorem hOk:∀ f a b,yV f a b->PC f a b:=by
 intro f a b h;cases h with
 | any l p t c d=>exact abF l p t c d
theorem abG(s:Sm)(o:Op)(p t:Int)(d:0<=o.a/\o.a<=s.w.length)(e:∀ x∈s.w,kN x)(g:∀ x∈o.w,kN x)(c:ug p) :
  PC 102 [be s,ek o,ia p t] (.ret (dB (!(s.w.drop o.a.toNat).any (eG p t)&&!o.w.any (eG p t)))):=by
 refine aG hOk Zq (by simp [Du]) fun j=>?_
 have a:=yV.any (s.w.drop o.a.toNat) p t (fun x h=>e x (iL h)) c;have b:=yV.any o.w p t g c;have i:List.take s.w.length (List.map dW s.w)=List.map dW s.w:=by rw [<- db (f:=dW),eK]
 generalize (s.w.drop o.a.toNat).any (eG p t)=x at a;generalize o.w.any (eG p t)=y at b;simp [Du];refine ah [.ret (dB x),.ret (dB y)] ?_;simp [d,i];simp [cB] at a b;exact⟨a,fun q=>⟨b,aP (by simp [q])⟩,fun q=>aP (by simp [q])⟩
end
section
theorem KX:Tryz.prog.underlying 25=some (.struct #[cZ 25 0]):=by kernel_rfl
theorem zPm:Tryz.prog.cellsOf 25=1:=by kernel_rfl
theorem KY:Tryz.prog.underlying 22=some (.slice 39):=by kernel_rfl
theorem KZ:Tryz.prog.underlying 23=some (.slice 4):=by kernel_rfl
theorem K_:Tryz.prog.cellsOf 4=1:=by kernel_rfl
section
variable {H:Type}{enc:TypeId×Value->H}{w:World}
theorem abH:dR enc Tryz.prog w 25 dP:=me (mg KX (by rw [zPm];kernel_rfl)
 (cY (t:=3) (off':=1) (by kernel_rfl) (by kernel_rfl) (by rw [hG]) hH mf)) (fun y=>⟨y.1,rfl⟩)
theorem abI:dR enc Tryz.prog w 22 (fun l:List Sm=>.sl 2 (l.map be)):=nk KY KJ (fun _=>rfl) abq abo
theorem abJ:dR enc Tryz.prog w 23 (fun l:List Bool=>.sl 1 (l.map dB)):=nk KZ K_ (fun _=>rfl) (fun y c a=>by simp [D.cells] at a;subst a;rfl) (JK KG)
end
theorem sPm:kD Tryz.prog 25 (fun x=>∃ p:Int,x=dP p):=JL (by rw [KX]) abH (fun _=>rfl) (fun p c a=>by simp [dP,D.cells] at a;subst a;rfl)
theorem abK:kD Tryz.prog 22 (fun x=>∃ l:List Sm,x=.sl 2 (l.map be)):=yw KY abI
theorem sBs:kD Tryz.prog 23 (fun x=>∃ l:List Bool,x=.sl 1 (l.map dB)):=yw KZ abJ
end
section
attribute [local simp] cK cI cJ cG cH cd bS cA
theorem Br(l:List Int):D.flat (l.map fun a=>D.lit (.int .i64 a))=l.map fun a=>D.lit (.int .i64 a):=lv _ fun d b=>by obtain⟨a,_,rfl⟩:=aS.1 b;rfl
theorem K'(l:List Int):wr (l.map fun a=>D.lit (.int .i64 a))=l.map fun a=>AV.d (.lit (.int .i64 a)):=by unfold wr;rw [Br,dA];rfl
theorem abL(n:Nat):List.replicate n (D.lit (.int .i64 0))=(List.replicate n (0:Int)).map fun a=>D.lit (.int .i64 a):=by rw [List.map_replicate]
theorem abM(n:Nat)(h:0<n/\n<=1000):PC 157 [.nil 1,dI n] (.fA 1 0 n (List.replicate n (dI 0))):=by
 refine aG aH aah (by simp [a157]) fun g=>?_
 have b:IntKind.i64.wrap (n:Int)=n:=wrap64 (by omega);have c:IntKind.i64.wrap 0=0:=wrap64 (by omega);have d:¬ (n:Int)<0:=by omega
 have e:0<n:=h.1;have a:¬ n=0:=by omega
 have f:fy 0 0 1 0 n=.aE 0 0 1 0 n:=by unfold fy;rw [ab a]
 simp [a157,c,b,d,e,a,f];refine⟨⟨by omega,by omega⟩,?_⟩;rw [abL,K'];simp
def dF(a:List (List Int))(k:Nat):List Int:=(a.take k).flatten
theorem La{a:List (List Int)}{k:Nat}(h:k<a.length):dF a (k+1)=dF a k++a[k]:=by unfold dF;rw [fR h,Ht];simp
theorem Lb(a:List (List Int))(k:Nat):(dF a k).length<=(dF a a.length).length:=by
 unfold dF;rw [eK]
 conv=>rhs;rw [<- mP k a]
 rw [Ht,da];omega
theorem Ld:∀ (q p:List Int) (m:Nat),q.length<=m->setAt ((p.map fun a=>AV.d (.lit (.int .i64 a)))++List.replicate m (AV.d (.lit (.int .i64 0)))) p.length (q.map fun a=>AV.d (.lit (.int .i64 a)))=((p++q).map fun a=>AV.d (.lit (.int .i64 a)))++List.replicate (m-q.length) (AV.d (.lit (.int .i64 0)))
 | [],p,m,_=>by simp [setAt]
 | a::q,p,0,h=>by simp at h
 | a::q,p,m+1,h=>by
  have b:=Ld q (p++[a]) m (by simpa using h);rw [bo,setAt];have e:((p.map fun a=>AV.d (.lit (.int .i64 a)))++List.replicate (m+1) (AV.d (.lit (.int .i64 0)))).set p.length (.d (.lit (.int .i64 a)))=((p++[a]).map fun a=>AV.d (.lit (.int .i64 a)))++List.replicate m (AV.d (.lit (.int .i64 0))):=by rw [Hu];simp [PH]
  rw [e];simpa using b
theorem Le{p:List Int}{m:Nat}:∀ (c:AV),(∃ a,a∈p/\AV.d (D.lit (Value.int IntKind.i64 a))=c)\/¬ m=0/\c=AV.d (D.lit (Value.int IntKind.i64 0))->c.one=true:=by rintro c (⟨a,_,rfl⟩ | ⟨_,rfl⟩) <;> rfl
theorem EN(b:Nat->Nat)(n o)(k:Nat)(p:List Int)(m:Nat):aq.ba b n o k ((p.map fun a=>AV.d (.lit (.int .i64 a)))++List.replicate m (AV.d (.lit (.int .i64 0)))) ((p.map fun a=>AV.d (.lit (.int .i64 a)))++List.replicate m (AV.d (.lit (.int .i64 0))))=True:=fi (by
 have:((p.map fun a=>AV.d (.lit (.int .i64 a)))++List.replicate m (AV.d (.lit (.int .i64 0))))=((p.map fun a=>D.lit (.int .i64 a))++List.replicate m (D.lit (.int .i64 0))).map AV.d:=by simp
 rw [this];exact js _ _ _ _ _)
theorem abN(a:Nat->Nat)(n o)(k:Nat)(m:Nat):aq.ba a n o k (List.replicate m (AV.d (.lit (.int .i64 0)))) (List.replicate m (AV.d (.lit (.int .i64 0))))=True:=EN a n o k [] m
theorem abO(b:List (List Int))(v:b.length<=100)(h:0<(dF b b.length).length/\(dF b b.length).length<=1000):PC 91 [.sl 1 (b.map fun l=>.sl 1 (l.map dI))] (.fA 1 (dF b b.length).length (dF b b.length).length ((dF b b.length).map dI)):=by
 refine aG aH Zi (by simp [a91]) fun w=>?_
 simp [a91];refine bm [0,2,9,10] Nat (fun k=>[(11,true,.d (dI k)),(3,true,.d (dI (((dF b k).length:Nat):Int)))]) (fun k=>[]) (fun k=>k<=b.length) (fun k=>b.length-k) 0 (by simp) ⟨[],[],?_⟩ (fun k n=>?_)
 ·simp [dF]
 by_cases c:k<b.length
 ·have d:=La c;have e:(dF b (k+1)).length=(dF b k).length+b[k].length:=by rw [d,da]
  have o:=Lb b (k+1);have p:IntKind.i64.wrap (((dF b k).length:Int)+b[k].length)=((dF b k).length:Int)+b[k].length:=wrap64 (by omega);have r:¬ ((dF b k).length:Int)+b[k].length<0:=by omega
  have f:=wS k (by omega);simp [c,p,r];refine⟨k+1,by omega,by omega,[],[],?_⟩;simp [f,e]
 ·have g:k=b.length:=by omega
  subst g;simp [c];refine ah [.fA 1 0 (dF b b.length).length (List.replicate (dF b b.length).length (dI 0))] ?_;simp;refine⟨abM _ h,?_⟩;refine bm [0,2,25,26] Nat (fun k=>[(27,true,.d (dI k)),(6,true,.aE 0 0 1 (dF b k).length (dF b b.length).length)]) (fun k=>[(0,.box true (((dF b k).map fun a=>AV.d (dI a))++List.replicate ((dF b b.length).length-(dF b k).length) (AV.d (dI 0))))]) (fun k=>k<=b.length) (fun k=>b.length-k) 0 (by simp) ⟨[],[],?_⟩ (fun k n=>?_)
  ·simp [dF,abN]
  by_cases c:k<b.length
  ·have d:=La c;have e:(dF b (k+1)).length=(dF b k).length+b[k].length:=by rw [d,da]
   have o:=Lb b (k+1);have f:=wS k (by omega);have i:=Ld b[k] (dF b k) ((dF b b.length).length-(dF b k).length) (by omega);have s:(dF b b.length).length-(dF b k).length-b[k].length=(dF b b.length).length-(dF b (k+1)).length:=by omega
   rw [s,<- d] at i;have m:=K' b[k];simp [c];generalize b[k]=q at *;cases q with
   | nil =>simp at d e;simp;refine⟨by omega,k+1,by omega,by omega,[],[],?_⟩;rw [d];simp [f,EN];exact Le
   | cons y j =>
    simp only [bN,bo] at e m i;have t:(dF b k).length+(j.length+1)<=(dF b b.length).length:=by omega
    simp [t];refine⟨by omega,k+1,by omega,by omega,[],[],?_⟩;have u:wr (D.lit (.int .i64 y)::j.map dI)=AV.d (.lit (.int .i64 y))::j.map fun a=>AV.d (.lit (.int .i64 a)):=m
    rw [u,i];simp [f,EN,e];exact Le
  ·have g:k=b.length:=by omega
   subst g;simp [c]
   done
end
section
def ib(N:List Nat)(v:AV):Prop:=bR N 2 v=true\/∃ r z a,v=.own r z a/\N.contains r=true
def gr(N:List Nat):HO->Prop
 | .box _ a=>∀ c∈a,c.one=true/\ib N c
 | .aA b=>∀ e∈b,bR N 1 e.2=true
 | _=>True
def si(h:List (Nat×HO)):Prop:=(ai h).Nodup/\∀ p∈h,gr (ai h) p.2
theorem Lf:∀ {h:List (Nat×HO)},(ai h).Nodup->∀ p∈h,AL.look h p.1=some p.2
 | (n,o)::r,b,p,a=>by
  simp only [ai,bo,vi] at b;rcases b_.1 a with rfl | a
  ·simp [AL.look]
  ·have c:p.1≠n:=fun e=>b.1 (by rw [<- e];exact aS.2 ⟨p,a,rfl⟩)
   simp only [AL.look];rw [ab c];exact Lf b.2 p a
theorem yW{N e:List Nat}(c:∀ n,N.contains n=true->e.contains n=true):∀ (k:Nat) (v:AV),bR N k v=true->bR e k v=true
 | 0,v,h=>by cases v <;> first | exact c _ h | exact h
 | k+1,v,h=>by
  cases v with
  | fn f a b =>simp only [bR,ax,bQ] at h |-;exact⟨fun x d=>yW c k x (h.1 x d),fun x d=>yW c k x (h.2 x d)⟩
  | _=>first | exact c _ h | exact h
theorem abP{N a:List Nat}(b:∀ n,N.contains n=true->a.contains n=true){v:AV}(h:ib N v):ib a v:=by
 rcases h with h | ⟨r,z,c,e,h⟩
 ·exact .inl (yW b 2 v h)
 ·exact .inr ⟨r,z,c,e,b _ h⟩
theorem Lg{N a:List Nat}(b:∀ n,N.contains n=true->a.contains n=true){o:HO}(h:gr N o):gr a o:=by
 cases o with
 | box g i=>exact fun c d=>⟨(h c d).1,abP b (h c d).2⟩
 | aA j=>exact fun e f=>yW b 1 _ (h e f)
 | _=>exact trivial
theorem mem_set{h:List (Nat×HO)}{n:Nat}{o:HO}{p:Nat×HO}(b:p∈aM h n o):p=(n,o)\/p∈h:=by
 induction h with
 | nil=>simp [aM] at b;exact .inl b
 | cons a r c =>
  obtain⟨m,x⟩:=a;simp only [aM] at b;split at b
  ·rename_i e;subst e;rcases b_.1 b with b | b
   ·exact .inl b
   ·exact .inr (cD _ b)
  ·rcases b_.1 b with b | b
   ·exact .inr (by rw [b];exact dj ..)
   ·exact(c b).imp id (cD _)
theorem yX{h:List (Nat×HO)}{n m:Nat}{o:HO}:m∈ai (aM h n o)↔m=n\/m∈ai h:=by
 induction h with
 | nil=>simp [aM,ai]
 | cons a r b =>
  obtain⟨k,x⟩:=a;simp only [aM];split
  ·rename_i e;subst e;simp [ai]
  ·rw [show ai ((k,x)::aM r n o)=k::ai (aM r n o) from rfl,show ai ((k,x)::r)=k::ai r from rfl,b_,b_,b];constructor
   ·rintro(h | h | h)
    ·exact .inr (.inl h)
    ·exact .inl h
    ·exact .inr (.inr h)
   ·rintro(h | h | h)
    ·exact .inr (.inl h)
    ·exact .inl h
    ·exact .inr (.inr h)
theorem abQ{h:List (Nat×HO)}{n:Nat}{o:HO}(b:(ai h).Nodup):(ai (aM h n o)).Nodup:=by
 induction h with
 | nil=>simp [aM,ai]
 | cons a r c =>
  obtain⟨k,x⟩:=a;rw [show ai ((k,x)::r)=k::ai r from rfl,vi] at b;simp only [aM];split
  ·rename_i e;subst e;exact vi.2 b
  ·rename_i e;refine vi.2 ⟨fun d=>?_,c b.2⟩;rcases yX.1 d with h | h
   ·exact e h.symm
   ·exact b.1 h
theorem iY{h:List (Nat×HO)}{n:Nat}{o:HO}(c:si h)(d:gr (n::ai h) o):si (aM h n o):=by
 refine⟨abQ c.1,fun p a=>?_⟩;rcases mem_set a with rfl | a
 ·refine Lg (fun m b=>?_) d;have:m∈n::ai h:=by simpa using b
  have:m∈ai (aM h n o):=yX.2 (b_.1 this);simpa using this
 ·refine Lg (fun m b=>?_) (c.2 p a);have:m∈ai h:=by simpa using b
  have:m∈ai (aM h n o):=yX.2 (.inr this);simpa using this
theorem abR{N:List Nat}{a:Nat->Bool}{b:Nat->Option Nat}(c:∀ n,N.contains n=true->a n=true)(d:∀ n,b n=none){v:AV}(h:ib N v):aq (aw []) b a 3 v v:=by
 rcases h with h | ⟨r,z,e,rfl,h⟩
 ·exact CC c 2 v h
 ·unfold aq;exact⟨rfl,rfl,rfl,c _ h,d _⟩
theorem Lh{b:St}{h:List (Nat×HO)}(f:si h)(m:b.h=h):∀ {l:List (Nat×HO)},(∀ p∈l,p∈h)->fX [] [] b h l
 | [],_=>trivial
 | (n,o)::r,q=>by
  have t:=q (n,o) (dj ..);have d:AL.look b.h n=some o:=by rw [m];exact Lf f.1 _ t
  have g:=f.2 _ t;have u:∀ k,(ai h).contains k=true->bg [] h k=true:=fun k w=>by simp [bg,bc];simpa using w
  have y:∀ k,cj [] h k=none:=fun k=>by unfold cj bc;split <;> rfl
  refine⟨?_,Lh f m fun p z=>q p (cD _ z)⟩;cases o with
  | box E i =>
   refine⟨rfl,?_⟩;rw [fc];show match AL.look b.h n with
    | some (.box _ A)=>aq.ba (aw []) (cj [] h) (bg [] h) 3 A i/\∀ c∈i,c.one=true
    | _=>False
   rw [d];refine⟨?_,fun c a=>(g c a).1⟩;have:∀ l:List AV,(∀ c∈l,ib (ai h) c)->aq.ba (aw []) (cj [] h) (bg [] h) 3 l l:=fun l=>by
    induction l with
    | nil=>intro _;unfold aq.ba;trivial
    | cons c l B=>intro a;unfold aq.ba;exact⟨abR u y (a c (dj ..)),B fun x C=>a x (cD _ C)⟩
   exact this i fun c a=>(g c a).2
  | aA j =>
   refine⟨rfl,?_⟩;rw [fc];show match AL.look b.h n with
    | some (.aA v)=>v.map (·.1)=j.map (·.1)/\aq (aw []) (cj [] h) (bg [] h) 3 (.af (v.map (·.2))) (.af (j.map (·.2)))
    | _=>False
   rw [d];refine⟨rfl,?_⟩;unfold aq;exact wi u 1 (j.map (·.2)) (by rw [Hq,bQ];exact fun e D=>g e D)
  | row=>exact .inr d
  | obj s=>exact⟨rfl,by rw [fc];exact d⟩
  | dead=>exact trivial
theorem oZ{B:Nat}{s a:List (Nat×Bool×AV)}{h:List (Nat×HO)}{d b:List DE}(c:si h)(e:jQ [] [] ⟨s,h,d⟩ h a)(f:ma [] [] h d b):Sub B ⟨s,h,d⟩ ⟨a,h,b⟩:=by refine⟨[],[],rX _,e,Lh c rfl fun _ h=>h,?_,f⟩;rw [bQ];intro n _;cases g:(ai h).contains n <;> simp [fc,bc]
theorem vF{h:List (Nat×HO)}{n:Nat}{o:HO}(a:AL.look h n=some o):(ai h).contains n=true:=ng a
theorem hJ{h:List (Nat×HO)}{n:Nat}{o:HO}(a:newName h=n):newName (aM h n o)=n+1:=vN h n o (by omega)
theorem hK:∀ {h:List (Nat×HO)}{n:Nat}{o:HO},newName (aM h n o)=max (newName h) (n+1)
 | [],n,o=>by simp [aM,newName]
 | (m,x)::r,n,o=>by
  simp only [aM];split
  ·rename_i e;subst e;simp only [newName];omega
  ·simp only [newName];rw [hK];omega
theorem set_set:∀ {h:List (Nat×HO)}{n:Nat}{a b:HO},aM (aM h n a) n b=aM h n b
 | [],n,a,b=>by simp [aM]
 | (m,x)::r,n,a,b=>by
  by_cases e:n=m
  ·subst e;simp [aM]
  ·simp [aM,e,set_set]
theorem mo{h:List (Nat×HO)}{n m:Nat}{o:HO}:(∃ x,(m,x)∈aM h n o)↔(m=n\/∃ x,(m,x)∈h):=by
 have e:∀ l:List (Nat×HO),(∃ x,(m,x)∈l)↔m∈ai l:=fun l=>by simp [ai]
 rw [e,e,yX]
theorem lE{h:List (Nat×HO)}{n:Nat}{o:HO}(a:n<newName h):newName (aM h n o)=newName h:=by rw [hK];omega
theorem dp{h:List (Nat×HO)}{n:Nat}{o:HO}(a:AL.look h n=some o):n<newName h:=Bq a
def EO(c a:AV):Prop:=∀ G w u,aC G w c u->aC G w a u
theorem nD(c:AV):EO c c:=fun _ _ _ h=>h
theorem abS(r z:Nat)(a:List D):EO (.own r z a) (.d (.sl z a)):=fun G w u h=>by obtain⟨A,n,c,rfl,_,b⟩:=h.tA;exact .d b
def EP:List AV->List AV->Prop
 | [],[]=>True
 | c::r,a::b=>EO c a/\EP r b
 | _,_=>False
theorem Lj{G:Gh}{w:World}:∀ {a b:List AV}(d:List Value),EP a b->a.length=d.length->(∀ (k:Nat) (c:AV) (u:Value),a[k]?=some c->d[k]?=some u->aC G w c u)->b.length=d.length/\∀ (k:Nat) (c:AV) (u:Value),b[k]?=some c->d[k]?=some u->aC G w c u
 | [],[],d,_,e,_=>⟨e,fun k c u h=>by simp at h⟩
 | c::r,j::l,[],_,e,_=>by simp at e
 | c::r,j::l,v::m,h,e,i=>by
  obtain⟨n,o⟩:=Lj m h.2 (by simpa using e) fun k c u p q=>i (k+1) c u (by simpa using p) (by simpa using q)
  refine⟨by simp [n],fun k x u f g=>?_⟩;cases k with
  | zero=>simp at f g;subst f;subst g;exact h.1 G w _ (i 0 c _ rfl rfl)
  | succ k=>exact o k x u (by simpa using f) (by simpa using g)
 | [],_::_,_,h,_,_=>h.elim
 | _::_,[],_,h,_,_=>h.elim
theorem Lk{P:Program}{f:FuncId}{T:Cx->List AV->List (Nat×HO)->(bK->List (Nat×HO)->Prop)->Prop}(c:cW P f T):cW P f (fun b d h K=>∃ a,EP d a/\T b a h K):=by refine⟨c.1,fun E b G h w d e K H i g j=>?_⟩;obtain⟨a,k,l⟩:=j;obtain⟨m,n⟩:=Lj e k g.1.symm g.2;exact c.2 E b G h w a e K H i ⟨m.symm,n⟩ l
theorem abU{P:Program}{a:Cx}{b:List (List Nat)}{k:Nat}{c:List aF}{Q:AE->St->Prop}{d:St}(h:∀ e f,e=a->f=Q->oK P e b k c f d):oK P a b k c Q d:=h _ _ rfl rfl
theorem Ll{P:Program}{a:Cx}{b:List (List Nat)}{k m:Nat}{c:List aF}{Q:AE->St->Prop}{d:St}(h:∀ e,e=Q->lB P a b k m c e d):lB P a b k m c Q d:=h _ rfl
theorem abV{P:Program}{a:Cx}{e:List (List Nat)}{k m:Nat}{b:List aF}{Q:AE->St->Prop}{f:St}(g i j:List Out)(h:∀ B:List Li->St->Prop,(∀ l d,B l d=eQ true a.C (fun _ _=>False) (fun o p=>de o e=true/\gq P a Q j (marks (b.drop m)) p) i (marks ((b.drop k).take (m-k))) d l) ->eQ true a.C (fun _ _=>False) (fun R n=>rO P a e R (b[k-1]?) (fun d c=>qf R n.h d.h/\c R) B Q n) g (marks (b.take (k-1))) f [])(q:0<k:=by decide):lB P a e k m b Q f :=
 rW g i j (h _ fun _ _=>rfl) q
structure Tm where
 no:Int
 at_:Int
 kn:Int
 aJ:Int
 src:List B8
 cR:List B8
 cat:B8
 gone:Bool
 deriving DecidableEq
def bF(x:Tm):D:=.agg [dI x.no,dI x.at_,dI x.kn,dI x.aJ,.sl 1 (x.src.map dT),.sl 1 (x.cR.map dT),dT x.cat,dB x.gone]
theorem qu(x:Tm):(bF x).cells=[dI x.no,dI x.at_,dI x.kn,dI x.aJ,.sl 1 (x.src.map dT),.sl 1 (x.cR.map dT),dT x.cat,dB x.gone]:=rfl
theorem qv(x:Tm):(bF x).isAgg=true:=rfl
theorem qw(x:Tm):(AV.d (bF x)).cg=true:=rfl
structure En where
 tx:B8
 cat:B8
 cn:Int
 gv:List B8
 cost:Int
 deriving DecidableEq
def df(x:En):D:=.agg [dT x.tx,dT x.cat,dI x.cn,.sl 1 (x.gv.map dT),dI x.cost]
theorem sj(x:En):(df x).cells=[dT x.tx,dT x.cat,dI x.cn,.sl 1 (x.gv.map dT),dI x.cost]:=rfl
theorem sk(x:En):(df x).isAgg=true:=rfl
theorem sm(x:En):(AV.d (df x)).cg=true:=rfl
structure Pt where
 cat:B8
 cn:Int
 tx:B8
 deriving DecidableEq
def bA(x:Pt):D:=.agg [dT x.cat,dI x.cn,dT x.tx]
theorem mq(x:Pt):(bA x).cells=[dT x.cat,dI x.cn,dT x.tx]:=rfl
theorem mr(x:Pt):(bA x).isAgg=true:=rfl
theorem mu(x:Pt):(AV.d (bA x)).cg=true:=rfl
structure Gv where
 pt:Int
 tx:B8
 deriving DecidableEq
def iC(x:Gv):D:=.agg [dI x.pt,dT x.tx]
theorem abW(x:Gv):(iC x).cells=[dI x.pt,dT x.tx]:=rfl
theorem abX(x:Gv):(iC x).isAgg=true:=rfl
theorem abY(x:Gv):(AV.d (iC x)).cg=true:=rfl
structure Rl where
 cat:B8
 cn:Int
 ps:List Pt
 gs:List Gv
 cost:Int
 deriving DecidableEq
def bI(x:Rl):D:=.agg [dT x.cat,dI x.cn,.sl 3 (x.ps.map bA),.sl 2 (x.gs.map iC),dI x.cost]
theorem nE(x:Rl):(bI x).cells=[dT x.cat,dI x.cn,.sl 3 (x.ps.map bA),.sl 2 (x.gs.map iC),dI x.cost]:=rfl
theorem nF(x:Rl):(bI x).isAgg=true:=rfl
theorem nG(x:Rl):(AV.d (bI x)).cg=true:=rfl
structure Gr where
 name:B8
 aN:List B8
 start:B8
 sn:Int
 es:List En
 rs:List Rl
 deriving DecidableEq
def bq(x:Gr):D:=.agg [dT x.name,.sl 1 (x.aN.map dT),dT x.start,dI x.sn,.sl 5 (x.es.map df),.sl 5 (x.rs.map bI)]
theorem kO(x:Gr):(bq x).cells=[dT x.name,.sl 1 (x.aN.map dT),dT x.start,dI x.sn,.sl 5 (x.es.map df),.sl 5 (x.rs.map bI)]:=rfl
theorem kP(x:Gr):(bq x).isAgg=true:=rfl
theorem kQ(x:Gr):(AV.d (bq x)).cg=true:=rfl
structure It where
 cat:Int
 fr:Int
 un:Int
 cost:Int
 cR:List B8
 term:Int
 deriving DecidableEq
def bT(x:It):D:=.agg [dI x.cat,dI x.fr,dI x.un,dI x.cost,.sl 1 (x.cR.map dT),dI x.term]
theorem so(x:It):(bT x).cells=[dI x.cat,dI x.fr,dI x.un,dI x.cost,.sl 1 (x.cR.map dT),dI x.term]:=rfl
theorem sp(x:It):(bT x).isAgg=true:=rfl
theorem sq(x:It):(AV.d (bT x)).cg=true:=rfl
structure Tg where
 tx:B8
 cS:List Int
 term:Int
 deriving DecidableEq
def aX(x:Tg):D:=.agg [dT x.tx,.sl 1 (x.cS.map dI),dI x.term]
theorem nH(x:Tg):(aX x).cells=[dT x.tx,.sl 1 (x.cS.map dI),dI x.term]:=rfl
theorem nI(x:Tg):(aX x).isAgg=true:=rfl
theorem nJ(x:Tg):(AV.d (aX x)).cg=true:=rfl
structure Ce where
 tx:B8
 al:List B8
 deriving DecidableEq
def cm(x:Ce):D:=.agg [dT x.tx,.sl 1 (x.al.map dT)]
theorem ss(x:Ce):(cm x).cells=[dT x.tx,.sl 1 (x.al.map dT)]:=rfl
theorem ui(x:Ce):(cm x).isAgg=true:=rfl
theorem uj(x:Ce):(AV.d (cm x)).cg=true:=rfl
end
section
attribute [local simp] cK cI cJ cG cH cd bS cA nH nI nJ
structure Wz where
 g:Gr
 ae:List It
 yl:Nat
def Lm(S:Wz):HO:=.box false [.d (.fn (.yield S.yl) [] [])]
def yY:HO:=.box false [.fn (.func 90) [] [.ptr 3 0]]
def Ln(S:Wz):HO:=.box false [.fn (.func 94) [] [.d (.ip (.sl 6 (S.ae.map bT))),.ptr 5 0,.d (.ip (bq S.g)),.ptr 4 0]]
def uk(R:Nat)(L:List Tg):AV:=if L=[] then .d (.nil 3) else .own R 3 (L.map aX)
structure jv (S:Wz) (h:List (Nat×HO)) (R:Nat) (L:List Tg):Prop where
 rg:si h
 l0:AL.look h 0=some (.box false [uk R L])
 lR:L≠[]->AL.look h R=some .row/\6<=R
 lN:L=[]->R=0
 l2:AL.look h 2=some (.obj 1)
 l3:AL.look h 3=some (Lm S)
 l4:AL.look h 4=some (Ln S)
 l5:AL.look h 5=some yY
structure Nx (h h':List (Nat×HO)) (R:Nat):Prop where
 nn:newName h<=newName h'
 at_:∀ n,n<newName h->n≠0->n≠R->AL.look h' n=AL.look h n
def ER(S:Wz)(b:Cx):Prop:=b.l=S.yl/\∀ (h:List (Nat×HO)) (R:Nat) (L:List Tg) (v:Tg) (c:Bool->List (Nat×HO)->Prop),jv S h R L->L.length<=1000000->(∀ a d,jv S a d (L++[v])->newName h<=d->Nx h a R->c true a)->b.Y [.d (aX v)] h c
theorem o_{S:Wz}{h:List (Nat×HO)}{R n:Nat}{o:HO}{L:List Tg}(c:jv S h R L)(f:newName h<=n)(e:gr (n::ai h) o):jv S (aM h n o) R L:=by
 have g:=dp c.l5;have d:∀ m,m<newName h->AL.look (aM h n o) m=AL.look h m:=fun m i=>by rw [bh,ab (by omega)]
 exact⟨iY c.rg e,by rw [d 0 (by omega)];exact c.l0,fun q=>by obtain⟨a,b⟩:=c.lR q;exact⟨by rw [d R (dp a)];exact a,b⟩,c.lN,by rw [d 2 (by omega)];exact c.l2,by rw [d 3 (by omega)];exact c.l3,by rw [d 4 (by omega)];exact c.l4,by rw [d 5 (by omega)];exact c.l5⟩
theorem qx{h a:List (Nat×HO)}{R n:Nat}{o:HO}(c:newName h<=n)(b:Nx (aM h n o) a R):Nx h a R:=by have e:newName (aM h n o)=n+1:=vN h n o c;refine⟨by have:=b.nn;omega,fun m g d f=>?_⟩;rw [b.at_ m (by omega) d f,bh,ab (by omega)]
theorem Lo{h c d:List (Nat×HO)}{R e:Nat}(a:Nx h c R)(b:Nx c d e)(g:newName h<=e\/e=R):Nx h d R :=
 ⟨eX a.nn b.nn,fun n c d f=>by rw [b.at_ n (fx c a.nn) d (by omega),a.at_ n c d f]⟩
theorem yZ{S:Wz}{h:List (Nat×HO)}{R:Nat}{L:List Tg}(a:jv S h R L):∃ M,newName h=M+6:=by have:=dp a.l5;exact⟨newName h-6,by omega⟩
theorem abZ(S:Wz)(c:Cx)(s:List (Nat×Bool×AV))(p:bn s 2=some (true,.ptr 0 0))(w:c.Y=vL [7] 2 s (fun l=>bL Tryz.prog {C:=c.C,B:=l,top:=false} (AC.region none [⟨(some 5),none,(.op (.alloc true [.lit (.string ⟨#[]⟩),.nil 1,.lit (.int .i64 0)]))⟩,⟨none,none,(.op (.store 3 (.tmp 5) (.tmp 7)))⟩])) (fun l=>bL Tryz.prog {C:=c.C,B:=l,top:=false} (AC.block 1 (.region none [⟨(some 8),none,(.op (.load 1 false (.tmp 2)))⟩,⟨(some 9),none,(.op (.load 3 true (.tmp 5)))⟩,⟨(some 10),none,(.op (.eg 3 [(.tmp 9)]))⟩,⟨(some 11),none,(.op (.append 3 48 (.tmp 8) (.tmp 10)))⟩,⟨none,none,(.op (.store 1 (.tmp 2) (.tmp 11)))⟩]))))(x:c.l=S.yl):ER S c:=by
 refine⟨x,fun h R L v P a Q r=>?_⟩;rw [w];obtain⟨M,b⟩:=yZ a;have j:=a.l2;have k:=a.l0;by_cases d:L=[]
 ·have y:=a.lN d;simp only [uk,aj d] at k;simp [j,b,p,k,bh,set_set,hJ,lE];refine r _ (M+8) ⟨?_,?_,fun _=>⟨?_,by omega⟩,?_,?_,?_,?_,?_⟩ (by omega) ⟨?_,fun n m o t=>?_⟩
  ·refine iY (iY (iY (iY (iY (iY a.rg ?_) ?_) ?_) ?_) ?_) ?_ <;> simp [gr,ib,bR,mo,AV.one,D.one,dT]
  ·simp [bh,uk,d,aX]
  ·simp [bh]
  ·simp
  ·simp [bh]
  ·simp [bh,a.l3]
  ·simp [bh,a.l4]
  ·simp [bh,a.l5]
  ·simp only [hK,b];omega
  ·rw [b] at m;have e:¬ n=M+6:=by omega
   have f:¬ n=M+7:=by omega
   have g:¬ n=M+8:=by omega
   by_cases q:n=2
   ·subst q;simp [bh,j]
   ·simp [bh,o,e,f,g,q]
 ·obtain⟨u,y⟩:=a.lR d;have z:=dp u;simp only [uk,ab d] at k;rw [b] at z;have A:¬ R=0:=by omega
  have E:¬ R=2:=by omega
  have F:¬ R=M+6:=by omega
  have G:¬ R=M+7:=by omega
  have H:¬ R=M+8:=by omega
  have I:¬ 0=R:=by omega
  have J:¬ 2=R:=by omega
  have e:¬ M+6=R:=by omega
  have f:¬ M+7=R:=by omega
  have g:¬ M+8=R:=by omega
  have K:R<M+7:=by omega
  have N:R<M+8:=by omega
  have O:R<M+9:=by omega
  simp [j,b,p,k,u,bh,set_set,hJ,lE,A,E,F,G,H,I,J,e,f,g,K,N,O];refine⟨⟨by omega,by omega⟩,?_⟩;refine r _ (M+8) ⟨?_,?_,fun _=>⟨?_,by omega⟩,?_,?_,?_,?_,?_⟩ (by omega) ⟨?_,fun n m o t=>?_⟩
  ·refine iY (iY (iY (iY (iY (iY (iY a.rg ?_) ?_) ?_) ?_) ?_) ?_) ?_ <;> simp [gr,ib,bR,mo,AV.one,D.one,dT]
  ·simp [bh,uk,aX]
  ·simp [bh]
  ·simp
  ·simp [bh]
  ·have i:¬ 3=R:=by omega
   simp [bh,a.l3,i]
  ·have i:¬ 4=R:=by omega
   simp [bh,a.l4,i]
  ·have i:¬ 5=R:=by omega
   simp [bh,a.l5,i]
  ·simp only [hK,b];omega
  ·rw [b] at m;have e:¬ n=M+6:=by omega
   have f:¬ n=M+7:=by omega
   have g:¬ n=M+8:=by omega
   by_cases q:n=2
   ·subst q;simp [bh,j]
   ·simp [bh,o,e,f,g,q,t]
theorem ab0(a b:List Int)(h:0<a.length+b.length/\a.length+b.length<=1000):PC 91 [.sl 1 [.sl 1 (a.map dI),.sl 1 (b.map dI)]] (.fA 1 (a.length+b.length) (a.length+b.length) ((a++b).map dI)):=by
 have e:dF [a,b] 2=a++b:=by simp [dF]
 have:=abO [a,b] (by simp) (by simpa [e] using h);simpa [e] using this
def ab1(S:Wz)(b:B8)(c d:List Int)(e:Int)(g:Cx)(i:List AV)(h:List (Nat×HO))(K:bK->List (Nat×HO)->Prop):Prop :=
 ∃ R L,ER S g/\i=[.d (dT b),.d (.sl 1 (c.map dI)),.d (.sl 1 (d.map dI)),.d (dI e),.ptr 3 0]/\jv S h R L/\L.length<=1000000 /\∀ a f,jv S a f (L++[⟨b,gj (gI (c++d)),e⟩])->newName h<=f->Nx h a R->K (.ret (.d (dB true))) a
theorem Lp(S:Wz)(m:B8)(b c:List Int)(n:Int)(i:0<b.length+c.length/\b.length+c.length<=1000):cW Tryz.prog 90 (ab1 S m b c n):=by
 refine((aR Zh).qp aH).mono fun T U h K v=>?_
 obtain⟨R,L,j,rfl,k,w,x⟩:=v;obtain⟨M,e⟩:=yZ k;simp [Kk,e];refine ah [.fA 1 (b.length+c.length) (b.length+c.length) ((b++c).map dI)] ?_;have o:=ab0 b c i;rw [dc] at o;have y:cq (List.map (AV.d∘dI) b++List.map (AV.d∘dI) c)=some ((b++c).map dI):=by rw [<- dc,<- dA];exact tS _
 have g:∀ l:List Int,List.map (D.num∘dI) l=l:=fun l=>(jF fun _ _=>rfl).trans (AT _)
 have z:List.take (b.length+c.length) (List.map (D.num∘dI) b++List.map (D.num∘dI) c)=b++c:=by rw [g,g,d'];simp
 have p:List.drop (b.length+c.length) (List.map (AV.d∘dI) b++List.map (AV.d∘dI) c)=[]:=by rw [vj];simp
 have A:(gI (b++c)).length=b.length+c.length:=by unfold gI;rw [(Hk _ _).length_eq,da]
 have r:∀ d∈(b++c).map dI,∃ a,d=D.lit (.int .i64 a):=fun d f=>by obtain⟨a,_,rfl⟩:=aS.1 f;exact⟨a,rfl⟩
 rw [dc] at r;have B:List.take (b.length+c.length) (b++c)=b++c:=by rw [d'];simp
 simp [e,hJ,lE,bh,y,g,B,p];refine⟨o,⟨i.2,fun d f=>r d (ir f)⟩,?_⟩;generalize gI (b++c)=q at *;have C:cq (List.map (fun a=>AV.d (D.lit (.int .i64 a))) q)=some (q.map dI):=by have:=tS (q.map dI);rwa [dA] at this
 have E:List.take (b.length+c.length) q=q:=d' (by omega);have F:List.take (b.length+c.length) (q.map dI)=q.map dI:=d' (by simp;omega);have V:∀ d∈q.map dI,∃ a,d=D.lit (.int .i64 a):=fun d f=>by obtain⟨a,_,rfl⟩:=aS.1 f;exact⟨a,rfl⟩
 have s:=k.l3;unfold Lm at s;obtain⟨G,j⟩:=j;refine abU fun W X t H=>?_
 refine oL [] [] ?_;simp [e,hJ,lE,bh,set_set,z,p,s,C,g,E,F,A];refine⟨i.2,?_,by rw [t];exact G.symm,?_⟩
 ·simp [de,kB,kA,List.range,List.range.loop]
 subst t;subst H;have I:jv S (aM (aM h (M+6) .row) (M+6+1) .dead) R L:=o_ (o_ k (by omega) trivial) (by rw [hJ e];omega) trivial;refine j _ R L ⟨m,gj q,n⟩ _ I w fun u J N O P=>?_
 have Q:Nx h u R:=qx (by omega) (qx (by rw [hJ e];omega) P);simp;exact x u J N (by rw [hJ (hJ e)] at O;omega) Q
end
section
attribute [local simp] cK cI cJ cG cH cd bS cA
def fK{a:Type}(p:a->Bool)(l:List a):Int:=match l.findIdx? p with | some i=>i | none=>-1
theorem qy{a:Type}(p:a->Bool)(l:List a):decide (0<=fK p l)=l.any p:=by
 unfold fK;cases h:l.findIdx? p with
 | none =>
  rw [te] at h;have:l.any p=false:=by rw [hv];intro x b;simp [h x b]
  rw [this];rfl
 | some i =>obtain⟨c,d,_⟩:=qZ.1 h;have:l.any p=true:=jE.2 ⟨l[i],cN c,d⟩;rw [this];simp
theorem qz{a:Type}{p:a->Bool}{l:List a}{i:Nat}(c:i<l.length)(h:∀ j,(b:j<i)->p (l[j]'(by omega))=false)(d:p l[i]=true):fK p l=i:=by have:l.findIdx? p=some i:=qZ.2 ⟨c,d,fun j b=>by rw [h j b];simp⟩;unfold fK;rw [this]
theorem qA{a:Type}{p:a->Bool}{l:List a}(h:∀ j,(b:j<l.length)->p l[j]=false):fK p l=-1:=by
 have:l.findIdx? p=none:=te.2 fun x c=>by obtain⟨j,b,rfl⟩:=pD.1 c;rw [h j b]
 unfold fK;rw [this]
theorem ab2{f:FuncId}{p:B8->Bool}(h:∀ b,PC f [dT b] (.ret (dB (p b))))(l:List B8):PC 67 [.sl 1 (l.map dT),.fn (.func f) [] []] (.ret (dI (fK p l))):=by
 refine aG aH Db (by simp [a67]) fun m=>?_
 have n:=(m (.sl 1 (l.map dT)) (by simp)).sl.1;simp at n;simp [a67];refine bm [0,1,7] Nat (fun y=>[(8,true,.d (dI y))]) (fun y=>[]) (fun y=>y<=l.length/\∀ j,(a:j<l.length)->j<y->p l[j]=false) (fun y=>l.length-y) 0 ⟨bp _,fun j a o=>absurd o (pG _)⟩ ⟨[],[],?_⟩ (fun k g=>?_)
 ·simp
 obtain⟨g,c⟩:=g;simp;refine⟨fun d=>?_,fun r=>?_⟩
 ·have q:=wS k (by omega);simp [d];refine aK [] ?_;simp [d];refine aV (TC [dT l[k]] (.ret (dB (p l[k])))) (kF (h l[k])) ?_;unfold TC kE;cases i:p l[k] with
  | true =>simp;rw [qz d (fun j a=>c j (by omega) a) i];exact aP rfl
  | false =>
   simp;refine⟨k+1,⟨by omega,fun j a s=>?_⟩,by omega,[],[],?_⟩
   ·by_cases e:j=k
    ·subst e;exact i
    ·exact c j a (by omega)
   ·simp [q]
 ·rw [qA (fun j a=>c j a (by omega))];simp
theorem anyS{f:FuncId}{p:B8->Bool}(h:∀ b,PC f [dT b] (.ret (dB (p b))))(l:List B8):PC 29 [.sl 1 (l.map dT),.fn (.func f) [] []] (.ret (dB (l.any p))):=by
 refine aG aH CR (by simp [a29]) fun a=>?_
 simp [a29];refine aK [] ?_;simp;refine aV (TC [.sl 1 (l.map dT),.fn (.func f) [] []] (.ret (dI (fK p l)))) (kF (ab2 h l)) ?_;unfold TC kE;simp [<- qy]
end
section
attribute [local simp] cK cI cJ cG cH cd bS cA qu qv qw ss ui uj
theorem ab3(b:B8):PC 251 [dT b] (.ret (dB (!bw b))):=by
 refine aG aH aa5 (by simp [EA]) fun a=>?_
 simp [EA];refine ah [.ret (dB (bw b))] ?_;simp;exact oV b
theorem ab4(b:B8):PC 116 [dT b] (.ret (dB (!bw b))):=by
 refine aG aH ZE (by simp [a116]) fun a=>?_
 simp [a116];refine ah [.ret (dB (bw b))] ?_;simp;exact oV b
theorem Lq(b:B8):PC 172 [dT b] (.ret (dB (!bw b))):=by
 refine aG aH aat (by simp [Ed]) fun a=>?_
 simp [Ed];refine ah [.ret (dB (bw b))] ?_;simp;exact oV b
theorem ab5(b:B8):PC 154 [dT b] (.ret (dB (!bw b))):=by
 refine aG aH aae (by simp [a154]) fun a=>?_
 simp [a154];refine ah [.ret (dB (bw b))] ?_;simp;exact oV b
theorem y_(b:B8):PC 27 [dT b] (.ret (dB (!bw b))):=by
 refine aG aH Yo (by simp [a27]) fun a=>?_
 simp [a27];refine ah [.ret (dB (bw b))] ?_;simp;exact oV b
def jW(l:List B8):Bool:=decide (1<=l.length)&&(decide (l.length<=4)&&!l.any fun b=>!bw b)
theorem Lr(l:List B8):PC 229 [.sl 1 (l.map dT)] (.ret (dB (jW l))):=by
 refine aG aH aaT (by simp [a229]) fun e=>?_
 simp [a229];unfold jW;refine aK [] ?_;by_cases q1:1<=l.length
 case neg =>
  have a:¬ (1:Int)<=(l.length:Int):=by omega
  simp [q1,a]
 have a:(1:Int)<=(l.length:Int):=by omega
 by_cases d:l.length<=4
 case neg =>
  have c:¬ (l.length:Int)<=4:=by omega
  simp [q1,a,d,c]
 have c:(l.length:Int)<=4:=by omega
 simp [q1,a,d,c];refine aV (TC [.sl 1 (l.map dT),.fn (.func 251) [] []] (.ret (dB (l.any fun b=>!bw b)))) (kF (anyS ab3 l)) ?_;unfold TC kE;simp
theorem Ls(n:Int):PC 144 [dI n] (.ret (dB (decide (0<=n)&&decide (n<1099511627776)))):=by
 refine aG aH ZZ (by simp [DW]) fun a=>?_
 simp [DW];refine ah [] ?_;by_cases q:0<=n <;> simp [q]
theorem Lt(n:Int):PC 143 [dI n] (.ret (dB (decide (0<=n)&&decide (n<32)))):=by
 refine aG aH ZY (by simp [a143]) fun a=>?_
 simp [a143];refine ah [] ?_;by_cases q:0<=n <;> simp [q]
def hL(c:Ce):Bool:=bw c.tx&&(decide (c.al.length<=4)&&!c.al.any fun b=>!bw b)
theorem Lu(c:Ce):PC 54 [cm c] (.ret (dB (hL c))):=by
 refine aG aH YH (by simp [a54]) fun e=>?_
 simp [a54,cm];unfold hL;refine aK [.ret (dB (bw c.tx))] ?_;have k:=oV c.tx;cases q1:bw c.tx with
 | false =>rw [q1] at k;simp;exact k
 | true =>
  rw [q1] at k;by_cases d:c.al.length<=4
  case neg =>
   have a:¬ (c.al.length:Int)<=4:=by omega
   simp [d,a];exact k
  have a:(c.al.length:Int)<=4:=by omega
  simp [d,a];refine⟨k,?_⟩;refine aV (TC [.sl 1 (c.al.map dT),.fn (.func 116) [] []] (.ret (dB (c.al.any fun b=>!bw b)))) (kF (anyS ab4 c.al)) ?_;unfold TC kE;simp
end
section
open Go Go.Proofs.YtloccchppmffpaaGreatDoor.AL Go.Proofs Go.Shelf
def Tryz.ab6 : Go.Shelf.Ren := ⟨fun | 137 => 259 | 217 => 261 | 266 => 264 | n => n, fun | 9 => 9 | 5 => 5 | 3 => 3 | n => n, fun | n => n⟩
theorem Tryz.ab7 : Go.Proofs.Lays.n137 Tryz.prog Tryz.ab6 := {
  mixed := by kernel_rfl
  f137 := Tryz.func259.trans (congrArg some (by kernel_rfl))
  f217 := Tryz.func261.trans (congrArg some (by kernel_rfl))
  f266 := Tryz.func264.trans (congrArg some (by kernel_rfl))
  t3 := Tryz.underlying3
  a3 := Tryz.isAgg3
  z3 := Tryz.sizeOf3
  v3 := Tryz.zeroValue3
  t5 := Tryz.underlying5
  a5 := Tryz.isAgg5
  z5 := Tryz.sizeOf5
  v5 := Tryz.zeroValue5
  t9 := Tryz.underlying9
  a9 := Tryz.isAgg9
  z9 := Tryz.sizeOf9
  v9 := Tryz.zeroValue9 }
attribute [local simp] cK cI cJ cG cH cd bS cA
theorem ab8(l:B8)(c:UInt8):-1<=Lib.indexByte l c/\Lib.indexByte l c<l.length+1:=by
 induction l with
 | nil=>exact⟨by simp [Lib.indexByte],by simp [Lib.indexByte]⟩
 | cons b l a =>
  unfold Lib.indexByte;split
  ·exact⟨by omega,by simp only [bN];omega⟩
  ·split
   ·exact⟨by omega,by simp only [bN];omega⟩
   ·simp only [bN];omega
theorem ab9(a:B8)(n:Int)(r:a.length<=1000):PC 259 [dT a,.lit (.int .u8 n)] (.ret (dI (Lib.indexByte a n.toNat.toUInt8))):=by
 refine⟨⟨Tryz.f259,by kernel_rfl,by kernel_rfl,by kernel_rfl⟩,fun I w b k s f=>?_⟩;have l:b=#[.string (bs a),.int .u8 n]:=by
  have g:=f.1;apply Array.ext_getElem?;intro i
  match i with
  | 0 =>
   have c:0<b.size:=by rw [g];simp
   have d:=f.2 0 (dT a) b[0] rfl (bb c);rw [bb c];generalize b[0]=y at d;cases d;rfl
  | 1 =>
   have c:1<b.size:=by rw [g];simp
   have d:=f.2 1 (.lit (.int .u8 n)) b[1] rfl (bb c);rw [bb c];generalize b[1]=y at d;cases d;rfl
  | i+2=>rw [Hc (by simp at g;omega),Hc (by simp)]
 subst l;refine(Any.strings_IndexByte Tryz.ab7 (bs a) n w).mono fun e m o=>?_
 obtain⟨j,rfl⟩:=o;have p:=ab8 a n.toNat.toUInt8;have q:Lib.indexByte (bs a).data.toList n.toNat.toUInt8=Lib.indexByte a n.toNat.toUInt8:=by rw [qs]
 rw [q] at j;generalize Lib.indexByte a n.toNat.toUInt8=z at p j |-;refine⟨I,_,fun _ h=>h,fun _ h=>.inl h,k,ct.refl m,j,.lit ?_⟩;exact⟨by simp [IntKind.min,IntKind.bits,IntKind.signed];omega,by simp [IntKind.max,IntKind.bits,IntKind.signed];omega⟩
def um:B8:=[123,125,40,41,59,44,61,58,46,60,62,33,43,45,42,47]
def kR(n:Int):Int :=
 if (97<=n/\n<=122)\/(65<=n/\n<=90) then 2
 else if 48<=n/\n<=57 then 3
 else if n=95 then 5
 else if n=32\/n=9\/n=10\/n=13 then 1
 else if 0<=Lib.indexByte um n.toNat.toUInt8 then 4 else 0
theorem ab_(n:Int):PC 259 [dT um,.lit (.int .u8 n)] (.ret (dI (Lib.indexByte um n.toNat.toUInt8))):=ab9 um n (by decide)
theorem Lv(n:Int):PC 252 [.lit (.int .u8 n)] (.ret (dI (kR n))):=by
 refine aG aH aa6 (by simp [EB]) fun t=>?_
 have k:=ab_ n;have e:dT um=.lit (.string ⟨#[123,125,40,41,59,44,61,58,46,60,62,33,43,45,42,47]⟩):=rfl;rw [e] at k;generalize m:Lib.indexByte um n.toNat.toUInt8=x at k;simp [EB];unfold kR;rw [m];refine ah [] ?_;by_cases q:(97<=n/\n<=122)\/(65<=n/\n<=90)
 ·rw [aj q];rcases (by omega:(97<=n/\n<=122/\0<=(0:Int)/\0<=(0:Int))\/(97<=n/\¬ n<=122/\65<=n/\n<=90)\/(¬ 97<=n/\0<=(0:Int)/\65<=n/\n<=90)) with ⟨a,b,c,d⟩ | ⟨a,b,c,d⟩ | ⟨a,b,c,d⟩
  all_goals simp [a,b,c,d]
 rw [ab q];rcases (by omega:(97<=n/\¬ n<=122/\65<=n/\¬ n<=90)\/(¬ 97<=n/\0<=(0:Int)/\65<=n/\¬ n<=90)\/(¬ 97<=n/\0<=(0:Int)/\¬ 65<=n/\0<=(0:Int))) with ⟨a,b,c,d⟩ | ⟨a,b,c,d⟩ | ⟨a,b,c,d⟩
 all_goals
  simp [a,b,c,d];refine ah [] ?_;by_cases g:48<=n/\n<=57
  ·simp [g.1,g.2]
  rcases (by omega:(48<=n/\¬ n<=57)\/(¬ 48<=n/\0<=(0:Int))) with ⟨h,i⟩ | ⟨h,i⟩
 all_goals
  simp [h,i];by_cases j:n=95
  ·simp [j]
  simp [j];refine ah [] ?_;by_cases f:n=32\/n=9\/n=10\/n=13
  ·rw [aj f];rcases (by omega:n=32\/n=9\/n=10\/n=13) with e | e | e | e <;> subst e <;> simp
  rw [ab f];have o:¬ n=32:=fun e=>f (.inl e)
  have p:¬ n=9:=fun e=>f (.inr (.inl e))
  have r:¬ n=10:=fun e=>f (.inr (.inr (.inl e)))
  have s:¬ n=13:=fun e=>f (.inr (.inr (.inr e)))
  simp [o,p,r,s];refine ah [.ret (dI x)] ?_;by_cases l:0<=x
  ·simp [l];exact k
  ·simp [l];exact k
def Tryz.Lw : Go.Shelf.Ren := ⟨fun | 156 => 74 | 165 => 146 | 166 => 147 | 169 => 148 | 240 => 194 | 241 => 195 | 276 => 231 | 277 => 232 | n => n, fun | 31 => 27 | 9 => 9 | 3 => 3 | 4 => 4 | 0 => 0 | 20 => 20 | 72 => 262 | 76 => 266 | 70 => 259 | 37 => 260 | 75 => 265 | 127 => 308 | 164 => 340 | 5 => 5 | 80 => 268 | n => n, fun | n => n⟩
theorem Tryz.Lx : Go.Proofs.Lays.n156 Tryz.prog Tryz.Lw := {
  mixed := by kernel_rfl
  f156 := Tryz.func74.trans (congrArg some (by kernel_rfl))
  f165 := Tryz.func146.trans (congrArg some (by kernel_rfl))
  f166 := Tryz.func147.trans (congrArg some (by kernel_rfl))
  f169 := Tryz.func148.trans (congrArg some (by kernel_rfl))
  f240 := Tryz.func194.trans (congrArg some (by kernel_rfl))
  f241 := Tryz.func195.trans (congrArg some (by kernel_rfl))
  f276 := Tryz.func231.trans (congrArg some (by kernel_rfl))
  f277 := Tryz.func232.trans (congrArg some (by kernel_rfl))
  t0 := Tryz.underlying0
  a0 := Tryz.isAgg0
  z0 := Tryz.sizeOf0
  v0 := Tryz.zeroValue0
  t3 := Tryz.underlying3
  a3 := Tryz.isAgg3
  z3 := Tryz.sizeOf3
  v3 := Tryz.zeroValue3
  t4 := Tryz.underlying4
  a4 := Tryz.isAgg4
  z4 := Tryz.sizeOf4
  v4 := Tryz.zeroValue4
  t9 := Tryz.underlying9
  a9 := Tryz.isAgg9
  z9 := Tryz.sizeOf9
  v9 := Tryz.zeroValue9
  t20 := Tryz.underlying20
  a20 := Tryz.isAgg20
  z20 := Tryz.sizeOf20
  v20 := Tryz.zeroValue20
  t31 := Tryz.underlying27
  a31 := Tryz.isAgg27
  z31 := Tryz.sizeOf27
  v31 := Tryz.zeroValue27
  t37 := Tryz.underlying260
  a37 := Tryz.isAgg260
  z37 := Tryz.sizeOf260
  v37 := Tryz.zeroValue260
  t70 := Tryz.underlying259
  a70 := Tryz.isAgg259
  z70 := Tryz.sizeOf259
  v70 := Tryz.zeroValue259
  t72 := Tryz.underlying262
  a72 := Tryz.isAgg262
  z72 := Tryz.sizeOf262
  v72 := Tryz.zeroValue262
  t75 := Tryz.underlying265
  a75 := Tryz.isAgg265
  z75 := Tryz.sizeOf265
  v75 := Tryz.zeroValue265
  t76 := Tryz.underlying266
  a76 := Tryz.isAgg266
  z76 := Tryz.sizeOf266
  v76 := Tryz.zeroValue266
  t127 := Tryz.underlying308
  a127 := Tryz.isAgg308
  z127 := Tryz.sizeOf308
  v127 := Tryz.zeroValue308
  t164 := Tryz.underlying340
  a164 := Tryz.isAgg340
  z164 := Tryz.sizeOf340
  v164 := Tryz.zeroValue340 }
def Tryz.wE : Go.Shelf.Ren := ⟨fun | 157 => 241 | 229 => 254 | 199 => 255 | 261 => 260 | 311 => 262 | 312 => 263 | n => n, fun | 9 => 9 | 31 => 27 | 3 => 3 | 5 => 5 | 4 => 4 | 119 => 350 | 0 => 0 | 40 => 368 | 152 => 372 | 21 => 21 | 154 => 374 | 51 => 323 | 141 => 376 | 196 => 380 | 193 => 377 | 198 => 383 | 49 => 381 | 194 => 378 | 201 => 386 | 226 => 388 | 46 => 282 | 227 => 389 | n => n, fun | 0 => 3 | 6 => 4 | n => n⟩
theorem Tryz.ab' : Go.Proofs.Lays.n157 Tryz.prog Tryz.wE := {
  mixed := by kernel_rfl
  f157 := Tryz.func241.trans (congrArg some (by kernel_rfl))
  f199 := Tryz.func255.trans (congrArg some (by kernel_rfl))
  f229 := Tryz.func254.trans (congrArg some (by kernel_rfl))
  f261 := Tryz.func260.trans (congrArg some (by kernel_rfl))
  f311 := Tryz.func262.trans (congrArg some (by kernel_rfl))
  f312 := Tryz.func263.trans (congrArg some (by kernel_rfl))
  t0 := Tryz.underlying0
  a0 := Tryz.isAgg0
  z0 := Tryz.sizeOf0
  v0 := Tryz.zeroValue0
  t3 := Tryz.underlying3
  a3 := Tryz.isAgg3
  z3 := Tryz.sizeOf3
  v3 := Tryz.zeroValue3
  t4 := Tryz.underlying4
  a4 := Tryz.isAgg4
  z4 := Tryz.sizeOf4
  v4 := Tryz.zeroValue4
  t5 := Tryz.underlying5
  a5 := Tryz.isAgg5
  z5 := Tryz.sizeOf5
  v5 := Tryz.zeroValue5
  t9 := Tryz.underlying9
  a9 := Tryz.isAgg9
  z9 := Tryz.sizeOf9
  v9 := Tryz.zeroValue9
  t21 := Tryz.underlying21
  a21 := Tryz.isAgg21
  z21 := Tryz.sizeOf21
  v21 := Tryz.zeroValue21
  t31 := Tryz.underlying27
  a31 := Tryz.isAgg27
  z31 := Tryz.sizeOf27
  v31 := Tryz.zeroValue27
  t40 := Tryz.underlying368
  a40 := Tryz.isAgg368
  z40 := Tryz.sizeOf368
  v40 := Tryz.zeroValue368
  t46 := Tryz.underlying282
  a46 := Tryz.isAgg282
  z46 := Tryz.sizeOf282
  v46 := Tryz.zeroValue282
  t49 := Tryz.underlying381
  a49 := Tryz.isAgg381
  z49 := Tryz.sizeOf381
  v49 := Tryz.zeroValue381
  t51 := Tryz.underlying323
  a51 := Tryz.isAgg323
  z51 := Tryz.sizeOf323
  v51 := Tryz.zeroValue323
  t119 := Tryz.underlying350
  a119 := Tryz.isAgg350
  z119 := Tryz.sizeOf350
  t141 := Tryz.underlying376
  a141 := Tryz.isAgg376
  z141 := Tryz.sizeOf376
  v141 := Tryz.zeroValue376
  t152 := Tryz.underlying372
  a152 := Tryz.isAgg372
  z152 := Tryz.sizeOf372
  v152 := Tryz.zeroValue372
  t154 := Tryz.underlying374
  a154 := Tryz.isAgg374
  z154 := Tryz.sizeOf374
  v154 := Tryz.zeroValue374
  t193 := Tryz.underlying377
  a193 := Tryz.isAgg377
  z193 := Tryz.sizeOf377
  v193 := Tryz.zeroValue377
  t194 := Tryz.underlying378
  a194 := Tryz.isAgg378
  z194 := Tryz.sizeOf378
  v194 := Tryz.zeroValue378
  t196 := Tryz.underlying380
  a196 := Tryz.isAgg380
  z196 := Tryz.sizeOf380
  v196 := Tryz.zeroValue380
  t198 := Tryz.underlying383
  a198 := Tryz.isAgg383
  z198 := Tryz.sizeOf383
  v198 := Tryz.zeroValue383
  t201 := Tryz.underlying386
  a201 := Tryz.isAgg386
  z201 := Tryz.sizeOf386
  v201 := Tryz.zeroValue386
  t226 := Tryz.underlying388
  a226 := Tryz.isAgg388
  z226 := Tryz.sizeOf388
  v226 := Tryz.zeroValue388
  t227 := Tryz.underlying389
  a227 := Tryz.isAgg389
  z227 := Tryz.sizeOf389
  v227 := Tryz.zeroValue389
  g0 := by kernel_rfl
  g6 := by kernel_rfl }
theorem Ly:Builder.Extra Tryz.prog Tryz.Lw where
 sizeBuilder:=by kernel_rfl
 liesBuilder:=by kernel_rfl
 t5:=Tryz.underlying5
 a5:=Tryz.isAgg5
 z5:=Tryz.sizeOf5
 v5:=Tryz.zeroValue5
 infoByte:=by kernel_rfl
 cellsByte:=by kernel_rfl
 sizeByte:=by kernel_rfl
 neB5:=by decide
theorem aca{I:Addr->Prop}{w:World}{a b:D}{c:Array Value}(d:gX I w [a,b] c):∃ x y,c=#[x,y]/\au I w a x/\au I w b y:=by
 have e:=d.1;have g:0<c.size:=by rw [e];simp
 have h:1<c.size:=by rw [e];simp
 refine⟨c[0],c[1],?_,d.2 0 a _ rfl (bb g),d.2 1 b _ rfl (bb h)⟩;apply xG
 ·simpa using e
 ·intro i j f;simp at f
  match i,f with
  | 0,_=>rfl
  | 1,_=>rfl
theorem LA{I:Addr->Prop}{w:World}{a:D}{b:Array Value}(c:gX I w [a] b):∃ x,b=#[x]/\au I w a x:=by
 have d:=c.1;have f:0<b.size:=by rw [d];simp
 refine⟨b[0],?_,c.2 0 a _ rfl (bb f)⟩;apply xG
 ·simpa using d
 ·intro i g e;simp at e;subst e;rfl
theorem wF(l:List B8):D.flat (l.map dT)=l.map dT:=lv _ fun d a=>by obtain⟨x,_,rfl⟩:=aS.1 a;rfl
theorem ES{I:Addr->Prop}{w:World}{t:B8}{v:Value}(h:au I w (dT t) v):v=.string (bs t):=by unfold dT at h;cases h;rfl
def ev(l:List B8)(a:B8):B8:=Lib.join l a
theorem ET(l:List B8)(c:B8)(h:(ev l c).length<=140737488355328)(X:l.length<=4611686018427):PC 74 [.sl 1 (l.map dT),dT c] (.ret (dT (ev l c))):=by
 refine⟨⟨Tryz.f74,by kernel_rfl,by kernel_rfl,by kernel_rfl⟩,fun I w Y s Z L=>?_⟩;obtain⟨x,y,rfl,M,N⟩:=aca L;obtain rfl:=ES N;have u:((l.map bs).map (·.data.toList))=l:=by rw [dA];exact(jF fun a _=>qs a).trans (AT l)
 have z:∀ (e:Ending) (b:World),e=.returned (.string (bs (ev l c)))->ct w b->∃ (k:Addr->Prop) (v:Value),(∀ a,I a->k a)/\(∀ a,k a->I a\/w.heap.size<=a.block)/\(∀ a,k a->(b.cell? a).isSome=true)/\ct w b/\Bz (.ret (dT (ev l c))) k b e v w:=fun e b f B=>by refine⟨I,_,fun _ h=>h,fun _ h=>.inl h,fun a C=>?_,B,f,.lit (by show (bs (ev l c)).size<=_;rw [bS];omega)⟩;obtain⟨v,O⟩:=eI.1 (s a C);rw [B.cell (d_ w _ O)];exact s a C
 cases M with
 | sl g vs D P hm Q a0 m p E =>
  rename_i n A F;rw [wF] at p E;simp only [db] at D;subst D;cases l with
  | nil =>
   refine(Any.strings_Join_none Tryz.Lx Ly A F (bs c) w).mono fun e b q=>?_
   obtain⟨f,rfl⟩:=q;exact z e b f (ct.refl b)
  | cons a l =>
   obtain rfl:A=some g:=Q.elim id (fun h=>by simp at h);have d:=(p 0 (dT a) rfl).2;have G:g.spot=none:=by
    unfold World.cell? at d;have R:(g.add 0).spot=g.spot:=rfl;split at d
    ·rw [R] at d;split at d
     ·cases d
     ·rename_i h;simpa using h
    ·cases d
   obtain⟨r,o,a1⟩:=g;simp only at G;subst G;have S:∀ (j:Nat) x,((a::l).map bs)[j]?=some x->w.cell? ⟨r,o+j,none⟩=some (.string x):=fun j x H=>by
    rw [bG,bZ] at H;obtain⟨t,T,rfl⟩:=H;have J:((a::l).map dT)[j]?=some (dT t):=by rw [bG,T];rfl
    have m:=(p j _ J).2;have U:=ES (E j _ J);rw [U,cc] at m;exact m
   have V:r<w.heap.size:=d_ w _ d;have W:(Lib.join (((a::l).map bs).map (·.data.toList)) (bs c).data.toList).length<=140737488355328:=by rw [u,qs];unfold ev at h;omega
   have K:=Any.strings_Join Tryz.Lx Ly r o F ((a::l).map bs) (bs c) w S V (by simp only [db];omega) (by simpa using P) W;rw [db] at K;refine K.mono fun e b q=>?_
   obtain⟨f,i⟩:=q;rw [u,qs] at f;exact z e b f ⟨i.os,i.tape,i.output,i.size,i.block⟩
set_option maxRecDepth 100000 in
theorem acb:∀ c:Nat,c<256->(if 9<=c/\c<=13\/c=32 then (1:Int) else 0)=if Lib.isSp (UInt8.ofNat c) then 1 else 0:=by decide
theorem acd{I:Addr->Prop}{w:World}(h:jH I w)(c:Nat)(a:c<256):w.cell? ⟨Tryz.wE.g 0,c,none⟩=some (.int .u8 (if Lib.isSp (UInt8.ofNat c) then 1 else 0)):=by
 have d:=h (3,.agg ((List.range 256).map fun c=>.lit (.int .u8 (if 9<=c/\c<=13\/c=32 then 1 else 0)))) (by simp [ti]);rw [<- acb c a];cases d with
 | ip _ f q1 g i =>
  have b:(D.agg ((List.range 256).map fun c=>D.lit (.int .u8 (if 9<=c/\c<=13\/c=32 then 1 else 0)))).cells[c]?=some (.lit (.int .u8 (if 9<=c/\c<=13\/c=32 then 1 else 0))):=by rw [show (D.agg ((List.range 256).map fun c=>D.lit (.int .u8 (if 9<=c/\c<=13\/c=32 then 1 else 0)))).cells=(List.range 256).map fun c=>D.lit (.int .u8 (if 9<=c/\c<=13\/c=32 then 1 else 0)) by simp only [D.cells]];rw [bG,sV a];rfl
  have e:=(g c _ b).2;have r:=i c _ b;rw [cc,bC] at e;show w.cell? ⟨3,c,none⟩=_;rw [e];generalize f c=y at r;generalize (if 9<=c/\c<=13\/c=32 then (1:Int) else 0)=z at r;cases r;rfl
theorem ace{I:Addr->Prop}{w:World}{t:TypeId}{l:List B8}(g:∀ x∈l,x.length<=4611686018427)(j:l.length<=4611686018427) :
  au (fun a=>I a\/(a.block=w.heap.size/\a.spot=none/\a.off<l.length)) (w.alloc (.cells (l.map fun l=>Value.string ⟨l.toArray⟩).toArray t)) (.sl 1 (l.map dT)) (.slice (some ⟨w.heap.size,0,none⟩) l.length l.length):=by
 refine .sl ⟨w.heap.size,0,none⟩ (fun k=>.string (bs (l.getD k []))) (by simp) (bj _) (by omega) (.inl rfl) (fun e h=>?_) (fun c f=>?_) (fun k c d=>?_) (fun k c d=>?_)
 ·obtain⟨x,_,rfl⟩:=aS.1 h;rfl
 ·rw [wF] at f;obtain⟨x,_,rfl⟩:=aS.1 f;rfl
 ·rw [wF,bG,bZ] at d;obtain⟨x,b,rfl⟩:=d;have i:=(bu.1 b).1;rw [cc,bC];refine⟨.inr ⟨rfl,rfl,i⟩,?_⟩;have e:l.getD k []=x:=by rw [fQ,b];rfl
  rw [e];unfold World.cell?;rw [show (w.alloc (.cells (l.map fun l=>Value.string ⟨l.toArray⟩).toArray t)).heap[w.heap.size]?=some (.cells (l.map fun l=>Value.string ⟨l.toArray⟩).toArray t (0,0)) from iK _ _];simp [b];rfl
 ·rw [wF,bG,bZ] at d;obtain⟨x,b,rfl⟩:=d;have e:l.getD k []=x:=by rw [fQ,b];rfl
  rw [e];have:=g x (dh b);exact .lit (by show (bs x).size<=_;rw [bS];omega)
theorem acf(t:B8)(B:t.length<=1000)(d:∀ b∈t,b.toNat<128)(r:∀ x∈Lib.fields t,x.length<=1000)(C:(Lib.fields t).length<=1000):PC 241 [dT t] (.ret (.sl 1 ((Lib.fields t).map dT))):=by
 refine⟨⟨Tryz.f241,by kernel_rfl,by kernel_rfl,by kernel_rfl⟩,fun I w D g s u=>?_⟩;obtain⟨x,rfl,f⟩:=LA u;obtain rfl:=ES f;refine(Any.strings_Fields_core Tryz.ab' (by kernel_rfl) (bs t) w (by rw [bS];omega) (fun j b i=>d b (by rw [qs] at i;exact dh i)) (fun c y=>acd s c y)).mono fun e E z=>?_
 obtain⟨k,rfl⟩:=z;rw [qs] at k |-;generalize Lib.fields t=l at *;have m:=ct.alloc w (.cells (l.map fun l=>Value.string ⟨l.toArray⟩).toArray (Tryz.wE.t 9));refine⟨fun a=>I a\/(a.block=w.heap.size/\a.spot=none/\a.off<l.length),_,fun a h=>.inl h,fun a h=>h.elim .inl fun h=>.inr (by omega),fun a d=>?_,m,k,ace (fun x f=>by have:=r x f;omega) (by omega)⟩;rcases d with d | ⟨n,p,q⟩
 ·obtain⟨v,A⟩:=eI.1 (g a d);rw [m.cell (d_ w _ A)];exact g a d
 ·obtain⟨b,o,F⟩:=a;simp only at n p q;subst n;subst p;unfold World.cell?;rw [show (w.alloc (.cells (l.map fun l=>Value.string ⟨l.toArray⟩).toArray (Tryz.wE.t 9))).heap[w.heap.size]?=some (.cells (l.map fun l=>Value.string ⟨l.toArray⟩).toArray (Tryz.wE.t 9) (0,0)) from iK _ _];simp [q]
end
section
attribute [local simp] cK cI cJ cG cH cd bS cA qu qv qw
theorem gP:(ByteArray.mk #[]).toList=[]:=by rw [ByteArray.toList_eq]
attribute [local simp] gP
def mv(b:UInt8):Bool:=decide (kR b.toNat=2)||(decide (kR b.toNat=3)||decide (kR b.toNat=5))
def o'(s:B8):Bool:=decide (0<s.length)&&(decide (s.length<=32)&&(decide (kR (s.getD 0 0).toNat=2)&&s.all mv))
theorem LB(s:B8):PC 230 [dT s] (.ret (dB (o' s))):=by
 refine aG aH aaU (by simp [yN]) fun t=>?_
 have B:s.length<=9223372036854775807:=by have h:=(show Real (.lit (.string (bs s))) from t (dT s) (by simp)).str;rw [bS] at h;exact h
 by_cases a:s=[]
 ·subst a;simp [yN,dT];refine ah [.ret (dI 0)] ?_;simp;exact aB.refl _
 have c:0<s.length:=sZ.2 a;have u:s.getD 0 0=s[0]:=by rw [fQ,aI c];rfl
 unfold o';rw [u,tf c,gW];simp [yN,dT];refine ah [.ret (dI (kR s[0].toNat))] ?_;by_cases q1:s.length<=32
 case neg =>
  have d:(32:Int)<(s.length:Int):=by omega
  simp [a,q1,d]
 have d:¬ (32:Int)<(s.length:Int):=by omega
 have k:=Lv s[0].toNat;by_cases g:kR s[0].toNat=2
 case neg =>simp [a,q1,d,g,c];exact k
 rw [g] at k;simp [a,q1,d,g,c];refine⟨k,?_⟩;refine bm [0,18,19] Nat (fun y=>[(20,true,.d (dI y))]) (fun y=>[]) (fun y=>y<=s.length/\(s.take y).all mv=true) (fun y=>s.length-y) 0 ⟨bp _,by simp⟩ ⟨[],[],?_⟩ (fun j m=>?_)
 ·simp
 obtain⟨m,i⟩:=m;simp;refine⟨fun f=>?_,fun v=>?_⟩
 ·have w:=wS j (by omega);have z:=Lv s[j].toNat;have n:(s.take (j+1)).all mv=(mv s[j]):=by rw [fR f,vk,i];simp
  have o:mv s[j]=(decide (kR (s[j].toNat:Int)=2)||(decide (kR (s[j].toNat:Int)=3)||decide (kR (s[j].toNat:Int)=5))):=rfl;have A:mv s[j]=false->s.all mv=false:=fun h=>by rw [Hs];exact⟨s[j],cN f,by simp [h]⟩
  generalize C:kR (s[j].toNat:Int)=x at *;simp [f];refine ah [.ret (dI x)] ?_;simp [f];refine⟨z,?_⟩;refine ah [] ?_;by_cases b:x=2\/x=3\/x=5
  ·have l:mv s[j]=true:=by rw [o];simp;exact b
   rw [l] at n;rcases b with e | e | e <;> subst e <;> simp
   all_goals
    refine⟨j+1,⟨by omega,?_⟩,by omega,[],[],?_⟩
    ·simpa using n
    ·simp [w]
  ·have p:¬ x=2:=fun e=>b (.inl e)
   have q:¬ x=3:=fun e=>b (.inr (.inl e))
   have r:¬ x=5:=fun e=>b (.inr (.inr e))
   have l:mv s[j]=false:=by rw [o];simp [p,q,r]
   rw [A l];simp [p,q,r]
 ·have e:s.take j=s:=d' v;rw [e] at i;rw [i];exact aB.refl _
end
section
attribute [local simp] cK cI cJ cG cH cd bS cA qu qv qw gP
def jX(n:Int):Bool:=decide (0<=n)&&decide (n<1099511627776)
def pa(n:Int):Bool:=decide (0<=n)&&decide (n<32)
def ic(x:Tm):Bool:=decide (0<=x.no)&&(decide (x.no<=1048576)&&(jX x.at_&&(jX x.kn&&(pa x.aJ&&(jW x.src&&(if x.gone then decide (x.cR.length=0)&&decide (x.cat=[]) else jW x.cR&&o' x.cat))))))
theorem LC(n:Int):PC 144 [dI n] (.ret (dB (jX n))):=Ls n
theorem acg(n:Int):PC 143 [dI n] (.ret (dB (pa n))):=Lt n
theorem ach(x:Tm):PC 193 [bF x] (.ret (dB (ic x))):=by
 refine aG aH c193 (by simp [a193]) fun o=>?_
 have k1:=LC x.at_;have k2:=LC x.kn;have k3:=acg x.aJ;have k4:=Lr x.src;have k5:=Lr x.cR;have k6:=LB x.cat;simp [a193,bF];unfold ic;refine ah [.ret (dB (jX x.at_)),.ret (dB (jX x.kn)),.ret (dB (pa x.aJ)),.ret (dB (jW x.src))] ?_;by_cases q1:0<=x.no
 case neg =>
  have b:x.no<0:=by omega
  simp [q1,b]
 have b:¬ x.no<0:=by omega
 by_cases d:x.no<=1048576
 case neg =>
  have c:1048576<x.no:=by omega
  simp [b,d,c]
 have c:¬ 1048576<x.no:=by omega
 cases j:jX x.at_ with
 | false =>rw [j] at k1;simp [q1,b,d,c];exact k1
 | true =>
 rw [j] at k1;cases k:jX x.kn with
 | false =>rw [k] at k2;simp [q1,b,d,c];exact⟨k1,k2⟩
 | true =>
 rw [k] at k2;cases l:pa x.aJ with
 | false =>rw [l] at k3;simp [q1,b,d,c];exact⟨k1,k2,k3⟩
 | true =>
 rw [l] at k3;cases m:jW x.src with
 | false =>rw [m] at k4;simp [q1,b,d,c];exact⟨k1,k2,k3,k4⟩
 | true =>
 rw [m] at k4;simp [q1,b,d,c];refine⟨k1,k2,k3,k4,?_⟩;cases p:x.gone with
 | true =>
  simp;refine ah [] ?_;by_cases f:x.cR.length=0
  ·have g:x.cR=[]:=PR.1 f;by_cases i:x.cat=[]
   ·simp [g,i,dT]
   ·have n:x.cat.isEmpty=false:=by
     cases h:x.cat with
     | nil=>exact absurd h i
     | cons a r=>rfl
    simp [g,i,n,dT]
  ·have g:¬ x.cR=[]:=fun e=>f (by rw [e];rfl)
   simp [f,g,dT]
 | false =>
  simp;refine ah [.ret (dB (jW x.cR)),.ret (dB (o' x.cat))] ?_;cases f:jW x.cR with
  | false =>rw [f] at k5;simp;exact k5
  | true =>rw [f] at k5;simp;exact⟨k5,k6⟩
def pb:Int->List Tm->Bool
 | _,[]=>true
 | m,x::r=>ic x&&(decide (m<x.no)&&pb x.no r)
def nK(l:List Tm):Int:=if 1024<l.length then 2 else if pb (-1) l then 0 else 270
theorem aci(l:List Tm):PC 142 [.sl 8 (l.map bF)] (.ret (dI (nK l))):=by
 refine aG aH ZX (by simp [DV]) fun p=>?_
 simp [DV];unfold nK;by_cases q1:1024<l.length
 ·have c:(1024:Int)<(l.length:Int):=by omega
  have d:¬ (l.length:Int)<=1024:=by omega
  simp [q1,c,d]
 have c:¬ (1024:Int)<(l.length:Int):=by omega
 have d:(l.length:Int)<=1024:=by omega
 simp [q1,c,d];refine bm [9,10] (Nat×Int) (fun y=>[(3,true,.d (dI y.2)),(11,true,.d (dI y.1))]) (fun y=>[]) (fun y=>y.1<=l.length/\pb (-1) l=pb y.2 (l.drop y.1)) (fun y=>l.length-y.1) (0,-1) ⟨bp _,rfl⟩ ⟨[],[],?_⟩ (fun y i=>?_)
 ·simp
 obtain⟨k,m⟩:=y;obtain⟨j,a⟩:=i;simp only at j a;simp;refine⟨fun f=>?_,fun n=>?_⟩
 ·have o:=wS k (by omega);have b:=ach l[k];rw [fF f,pb] at a;simp [f,bF];refine ah [.ret (dB (ic l[k]))] ?_;cases g:ic l[k] with
  | false =>rw [g] at b a;rw [a];simp;exact b
  | true =>
   rw [g] at b a;by_cases h:m<l[k].no
   ·have e:¬ l[k].no<=m:=by omega
    rw [tf h,gW,gW] at a;simp [e];refine⟨b,k+1,l[k].no,⟨by omega,a⟩,by omega,[],[],?_⟩;simp [o]
   ·have e:l[k].no<=m:=by omega
    rw [a];simp [h,e];exact b
 ·rw [a,vj n];exact aB.refl _
end
section
attribute [local simp] cK cI cJ cG cH cd bS cA kO kP kQ sj sk sm nE nF nG qu qv qw
def wG(n:Nat):Bool:=decide (n<=40)||(decide (512<n)&&decide (n<=600))
def y'(n:Nat):Bool:=decide (n<=20)||(decide (128<n)&&decide (n<=200))
def za(x:En):Bool:=decide (x.gv.length<=10)
def wH(x:Rl):Bool:=decide (x.ps.length<=10)&&decide (x.gs.length<=20)
def qB(g:Gr):Bool:=decide (g.aN.length<=40)&&(wG g.es.length&&(y' g.rs.length&&(g.es.all za&&g.rs.all wH)))
theorem wI{a:Type}{p:a->Bool}{l:List a}{k:Nat}(b:k<l.length)(c:p l[k]=false):l.all p=false:=by rw [Hs];exact⟨l[k],cN b,by simp [c]⟩
theorem zb{a:Type}{p:a->Bool}{l:List a}{k:Nat}(b:k<l.length)(h:(l.take k).all p=true)(c:p l[k]=true):(l.take (k+1)).all p=true:=by rw [fR b,vk,h];simp [c]
theorem zc{a:Type}{p:a->Bool}{l:List a}{k:Nat}(b:l.length<=k)(h:(l.take k).all p=true):l.all p=true:=by rw [d' b] at h;exact h
theorem acj(g:Gr):PC 62 [bq g] (.ret (dB (qB g))):=by
 refine aG aH YP (by simp [Da]) fun I=>?_
 simp [Da,bq];unfold qB;refine ah [] ?_;by_cases q1:g.aN.length<=40
 case neg =>
  have h:(40:Int)<(g.aN.length:Int):=by omega
  simp [q1,h]
 have h:¬ (40:Int)<(g.aN.length:Int):=by omega
 rw [tf q1,gW];generalize e:g.es.length=E;generalize d:g.rs.length=R;by_cases i:wG E=true
 case neg =>
  rw [Bool.not_eq_true] at i;have j:=i;unfold wG at j;simp at j;rw [i,mT];rcases (by omega:((40:Int)<(E:Int)/\(E:Int)<=512/\0<=(0:Int))\/((40:Int)<(E:Int)/\¬ (E:Int)<=512/\(600:Int)<(E:Int))) with ⟨a,b,c⟩ | ⟨a,b,c⟩
  all_goals simp [h,e,a,b,c]
 have j:=i;unfold wG at j;simp at j;rw [i,gW];by_cases l:y' R=true
 case neg =>
  rw [Bool.not_eq_true] at l;have m:=l;unfold y' at m;simp at m;rw [l,mT];rcases (by omega:(¬ (40:Int)<(E:Int)/\0<=(0:Int)/\¬ (600:Int)<(E:Int))\/((40:Int)<(E:Int)/\¬ (E:Int)<=512/\¬ (600:Int)<(E:Int))) with ⟨a,b,c⟩ | ⟨a,b,c⟩
  all_goals
   rcases (by omega:((20:Int)<(R:Int)/\(R:Int)<=128/\0<=(0:Int))\/((20:Int)<(R:Int)/\¬ (R:Int)<=128/\(200:Int)<(R:Int))) with ⟨n,o,p⟩ | ⟨n,o,p⟩
  all_goals simp [h,e,d,a,b,c,n,o,p]
 have m:=l;unfold y' at m;simp at m;rw [l,gW];rcases (by omega:(¬ (40:Int)<(E:Int)/\0<=(0:Int)/\¬ (600:Int)<(E:Int))\/((40:Int)<(E:Int)/\¬ (E:Int)<=512/\¬ (600:Int)<(E:Int))) with ⟨a,b,c⟩ | ⟨a,b,c⟩
 all_goals
  rcases (by omega:(¬ (20:Int)<(R:Int)/\0<=(0:Int)/\¬ (200:Int)<(R:Int))\/((20:Int)<(R:Int)/\¬ (R:Int)<=128/\¬ (200:Int)<(R:Int))) with ⟨n,o,p⟩ | ⟨n,o,p⟩
 all_goals
  simp [h,e,d,a,b,c,n,o,p];refine bm [1] Nat (fun y=>[(3,true,.d (dI y))]) (fun y=>[]) (fun y=>y<=E/\(g.es.take y).all za=true) (fun y=>E-y) 0 ⟨bp _,by simp⟩ ⟨[],[],?_⟩ (fun k z=>?_)
  ·simp
  obtain⟨z,A⟩:=z;by_cases t:k<E
  ·have r:k<g.es.length:=by omega
   have u:=wS k (by omega);by_cases B:g.es[k].gv.length<=10
   ·have v:¬ (10:Int)<(g.es[k].gv.length:Int):=by omega
    simp [e,t,r,v];refine⟨k+1,⟨by omega,bQ.1 (zb r A (by unfold za;simp [B]))⟩,by omega,[],[],?_⟩;simp [u]
   ·have v:(10:Int)<(g.es[k].gv.length:Int):=by omega
    rw [wI r (by unfold za;simp [B]),mT];simp [e,t,r,v]
  have G:=zc (by omega) A;rw [G,gW];simp [e,t];refine bm [1] Nat (fun y=>[(4,true,.d (dI y))]) (fun y=>[]) (fun y=>y<=R/\(g.rs.take y).all wH=true) (fun y=>R-y) 0 ⟨bp _,by simp⟩ ⟨[],[],?_⟩ (fun k2 C=>?_)
  ·simp
  obtain⟨C,D⟩:=C;by_cases q:k2<R
  ·have f:k2<g.rs.length:=by omega
   have u:=wS k2 (by omega);simp [d,q];refine ah [] ?_;by_cases w:g.rs[k2].ps.length<=10
   case neg =>
    have s:(10:Int)<(g.rs[k2].ps.length:Int):=by omega
    rw [wI f (by unfold wH;simp [w])];simp [d,q,f,s]
   have s:¬ (10:Int)<(g.rs[k2].ps.length:Int):=by omega
   by_cases F:g.rs[k2].gs.length<=20
   ·have x:¬ (20:Int)<(g.rs[k2].gs.length:Int):=by omega
    simp [d,q,f,s,x];refine⟨k2+1,⟨by omega,bQ.1 (zb f D (by unfold wH;simp [w,F]))⟩,by omega,[],[],?_⟩;simp [u]
   ·have x:(20:Int)<(g.rs[k2].gs.length:Int):=by omega
    rw [wI f (by unfold wH;simp [w,F])];simp [d,q,f,s,x]
  have H:=zc (by omega) D;rw [H];simp [d,q]
theorem ack(l:List Tm):PC 63 [.sl 8 (l.map bF)] (.ret (dB (decide (l.length<=30)||(decide (1024<l.length)&&decide (l.length<=1100))))):=by
 refine aG aH YQ (by simp [a63]) fun f=>?_
 simp [a63];refine ah [] ?_;by_cases q1:l.length<=30
 ·have a:(l.length:Int)<=30:=by omega
  simp [q1,a]
 have a:¬ (l.length:Int)<=30:=by omega
 by_cases c:1024<l.length
 ·have b:(1024:Int)<(l.length:Int):=by omega
  by_cases e:l.length<=1100
  ·have d:(l.length:Int)<=1100:=by omega
   simp [q1,a,c,b,e,d]
  ·have d:¬ (l.length:Int)<=1100:=by omega
   simp [q1,a,c,b,e,d]
 ·have b:¬ (1024:Int)<(l.length:Int):=by omega
  simp [q1,a,c,b]
end
section
attribute [local simp] cK cI cJ cG cH cd bS cA kO kP kQ
def ze(l:List Tm):Bool:=decide (l.length<=30)||(decide (1024<l.length)&&decide (l.length<=1100))
def leB(n:Nat)(b:B8):Bool:=decide (b.length<=n)
def su(g:Gr)(l:List Tm)(w:List B8):Bool:=qB g&&(ze l&&(decide (w.length<=30)&&w.all (leB 100)))
theorem acm(l:List Tm):PC 63 [.sl 8 (l.map bF)] (.ret (dB (ze l))):=ack l
theorem acn(g:Gr)(l:List Tm)(w:List B8):PC 21 [bq g,.sl 8 (l.map bF),.sl 1 (w.map dT)] (.ret (dB (su g l w))):=by
 refine aG aH c21 (by simp [a21]) fun m=>?_
 have k1:=acj g;have k2:=acm l;simp [a21,bq];unfold su;refine ah [.ret (dB (qB g)),.ret (dB (ze l))] ?_;cases q1:qB g with
 | false =>rw [q1] at k1;simp;exact k1
 | true =>
 rw [q1] at k1;cases d:ze l with
 | false =>rw [d] at k2;simp;exact⟨k1,k2⟩
 | true =>
 rw [d] at k2;by_cases e:w.length<=30
 case neg =>
  have b:(30:Int)<(w.length:Int):=by omega
  simp [e,b];exact⟨k1,k2⟩
 have b:¬ (30:Int)<(w.length:Int):=by omega
 rw [tf e,gW,gW,gW];simp [b];refine⟨k1,k2,?_⟩;refine bm [2] Nat (fun y=>[(7,true,.d (dI y))]) (fun y=>[]) (fun y=>y<=w.length/\(w.take y).all (leB 100)=true) (fun y=>w.length-y) 0 ⟨bp _,by simp⟩ ⟨[],[],?_⟩ (fun k f=>?_)
 ·simp
 obtain⟨f,h⟩:=f;by_cases a:k<w.length
 ·have j:=wS k (by omega);by_cases i:w[k].length<=100
  ·have c:¬ (100:Int)<(w[k].length:Int):=by omega
   simp [a,dT,c];refine⟨k+1,⟨by omega,bQ.1 (zb a h (by unfold leB;simp [i]))⟩,by omega,[],[],?_⟩;simp [j]
  ·have c:(100:Int)<(w[k].length:Int):=by omega
   rw [wI a (by unfold leB;simp [i])];simp [a,dT,c]
 ·rw [zc (by omega) h];simp [a]
def mO(M g:Nat):Nat:=M ^ g
def mN(M:Nat):Nat->Nat
 | 0=>0
 | g+1=>mN M g+mO M g
theorem EU{M g:Nat}(a:M<=2)(b:g<=3):mN M g<=7/\mO M g<=8:=by rcases (by omega:M=0\/M=1\/M=2) with rfl | rfl | rfl <;> rcases (by omega:g=0\/g=1\/g=2\/g=3) with rfl | rfl | rfl | rfl <;> decide
theorem aco(w m:List B8)(k:Nat)(s:w.length<=4)(a:m.length<=2)(t:k<=2):PC 22 [.sl 1 (w.map dT),.sl 1 (m.map dT),dI k] (.ret (dI (mN m.length (k+1)))):=by
 refine aG aH Yn (by simp [a22]) fun u=>?_
 simp [a22];refine bm [0,1,2] Nat (fun y=>[(7,true,.d (dI (mN m.length y))),(8,true,.d (dI (mO m.length y))),(9,true,.d (dI y))]) (fun y=>[]) (fun y=>y<=k+1) (fun y=>k+1-y) 0 (bp _) ⟨[],[],?_⟩ (fun g v=>?_)
 ·simp [mN,mO]
 have x:=EU a (by omega:g<=3);have c:IntKind.i64.wrap ((w.length:Int)+(g:Int))=(w.length:Int)+(g:Int):=wrap64 (by omega);have d:(w.length:Int)+(g:Int)<=16:=by omega
 have f:((mN m.length g:Nat):Int)<=256:=by omega
 have h:=wS g (by omega);simp;refine ah [] ?_;by_cases q:g<=k
 ·have b:(g:Int)<=(k:Int):=by omega
  have z:=EU a (by omega:g+1<=3);have i:¬ (257:Int)<(m.length:Int):=by omega
  have j:((mN m.length g:Nat):Int)+((mO m.length g:Nat):Int)=((mN m.length (g+1):Nat):Int):=by rw [mN];omega
  have l:((mO m.length g:Nat):Int)*(m.length:Int)=((mO m.length (g+1):Nat):Int):=by unfold mO;rw [Nat.pow_succ];push_cast;rfl
  have n:IntKind.i64.wrap ((mN m.length (g+1):Nat):Int)=((mN m.length (g+1):Nat):Int):=wrap64 (by omega);have o:IntKind.i64.wrap ((mO m.length (g+1):Nat):Int)=((mO m.length (g+1):Nat):Int):=wrap64 (by omega);simp [q,b,c,d,f];refine⟨g+1,by omega,by omega,[],[],?_⟩;simp [h,i,j,l,n,o]
 ·have e:g=k+1:=by omega
  have b:¬ (g:Int)<=(k:Int):=by omega
  subst e;have p:¬ (k:Int)+1<=(k:Int):=by omega
  have r:¬ k+1<=k:=by omega
  simp [p,r]
theorem acp(g:Gr)(l:List Tm)(w m:List B8)(k:Nat)(q:w.length<=4)(e:m.length<=2)(r:k<=2):PC 9 [bq g,.sl 8 (l.map bF),.sl 1 (w.map dT),.sl 1 (m.map dT),dI k] (.ret (dB (m.all (leB 200)&&(su g l w&&decide (g.aN.length<=6))))):=by
 refine aG aH c9 (by simp [a9]) fun A=>?_
 have k1:=acn g l w;have k2:=aco w m k q e r;have B:=EU e (by omega:k+1<=3);generalize mN m.length (k+1)=N at *;simp [a9,bq];refine bm [1,2,3,4,5] Nat (fun y=>[(11,true,.d (dI y))]) (fun y=>[]) (fun y=>y<=m.length/\(m.take y).all (leB 200)=true) (fun y=>m.length-y) 0 ⟨bp _,by simp⟩ ⟨[],[],?_⟩ (fun j f=>?_)
 ·simp
 obtain⟨f,h⟩:=f;have i:(j:Int)<300:=by omega
 simp;refine ah [] ?_;by_cases a:j<m.length
 ·have b:(j:Int)<(m.length:Int):=by omega
  have s:=wS j (by omega);by_cases n:m[j].length<=200
  ·have c:¬ (200:Int)<(m[j].length:Int):=by omega
   simp [a,b,i,dT,c];refine⟨j+1,⟨by omega,bQ.1 (zb a h (by unfold leB;simp [n]))⟩,by omega,[],[],?_⟩;simp [s]
  ·have c:(200:Int)<(m[j].length:Int):=by omega
   rw [wI a (by unfold leB;simp [n])];simp [a,b,i,dT,c]
 ·have b:¬ (j:Int)<(m.length:Int):=by omega
  rw [zc (by omega) h,gW];simp [a,b];refine ah [.ret (dB (su g l w))] ?_;cases q1:su g l w with
  | false =>rw [q1] at k1;simp;exact k1
  | true =>
  rw [q1] at k1;have t:¬ (5:Int)<(w.length:Int):=by omega
  have u:¬ (40:Int)<(w.length:Int):=by omega
  have v:¬ (300:Int)<(m.length:Int):=by omega
  have x:¬ (k:Int)<0:=by omega
  have z:¬ (3:Int)<(k:Int):=by omega
  have o:((N:Nat):Int)<=21:=by omega
  simp [t,u,v];refine⟨k1,?_⟩;refine ah [.ret (dI N)] ?_;simp [x,z];refine⟨k2,?_⟩;refine ah [] ?_;by_cases p:g.aN.length<=6
  ·have d:(g.aN.length:Int)<=6:=by omega
   simp [o,p,d]
  ·have d:¬ (g.aN.length:Int)<=6:=by omega
   simp [o,p,d]
end
section
attribute [local simp] cK cI cJ cG cH cd bS cA nH nI nJ
theorem acq(a b:List Int):PC 161 [.sl 1 (a.map dI),.sl 1 (b.map dI)] (.ret (dB (decide (a=b)))):=by
 refine aG aH aaj (by simp [D_]) fun i=>?_
 have j:=(i (.sl 1 (a.map dI)) (by simp)).sl.1;simp at j;simp [D_];refine⟨fun l=>aP ?_,fun n=>?_⟩
 ·have:a≠b:=fun e=>l (by rw [e])
  simp [this]
 ·refine bm [0,1] Nat (fun k=>[(5,true,.d (dI k))]) (fun k=>[]) (fun k=>k<=a.length/\a.take k=b.take k) (fun k=>a.length-k) 0 (by simp) ⟨[],[],?_⟩ (fun k c=>?_)
  ·simp
  obtain⟨o,d⟩:=c;simp;refine⟨fun f=>?_,fun p=>?_⟩
  ·have g:k<b.length:=by omega
   simp [f,g];refine⟨rfl,fun h=>aP ?_,fun h=>⟨k+1,⟨by omega,oX d f g h⟩,by omega,[],[],?_⟩⟩
   ·simp [oY f g h]
   ·rw [wrap64 (by omega)];simp
  ·have c:k=a.length:=by omega
   subst c;have m:a.length=b.length:=by omega
   rw [eK,m,eK] at d;simp [d]
theorem eqI(a b:List Int):PC 71 [.sl 1 (a.map dI),.sl 1 (b.map dI)] (.ret (dB (decide (a=b)))):=by
 refine aG aH YT (by simp [Dc]) fun i=>?_
 have j:=(i (.sl 1 (a.map dI)) (by simp)).sl.1;simp at j;simp [Dc];refine⟨fun l=>aP ?_,fun n=>?_⟩
 ·have:a≠b:=fun e=>l (by rw [e])
  simp [this]
 ·refine bm [0,1,12] Nat (fun k=>[(13,true,.d (dI k))]) (fun k=>[]) (fun k=>k<=a.length/\a.take k=b.take k) (fun k=>a.length-k) 0 (by simp) ⟨[],[],?_⟩ (fun k c=>?_)
  ·simp
  obtain⟨o,d⟩:=c;simp;refine⟨fun f=>?_,fun p=>?_⟩
  ·have g:k<b.length:=by omega
   simp [f,g];refine⟨rfl,fun h=>aP ?_,fun h=>⟨k+1,⟨by omega,oX d f g h⟩,by omega,[],[],?_⟩⟩
   ·simp [oY f g h]
   ·rw [wrap64 (by omega)];simp
  ·have c:k=a.length:=by omega
   subst c;have m:a.length=b.length:=by omega
   rw [eK,m,eK] at d;simp [d]
theorem acr(x y:Tg):PC 97 [aX x,aX y] (.ret (dB (decide (x=y)))):=by
 refine aG aH Zl (by simp [Dn]) fun i=>?_
 have k:=acq x.cS y.cS;have c:x=y↔x.tx=y.tx/\x.term=y.term/\x.cS=y.cS:=⟨fun e=>by subst e;exact⟨rfl,rfl,rfl⟩,fun⟨f,g,a⟩=>by cases x;cases y;simp at f g a;simp [f,g,a]⟩;simp [Dn,aX,dT];refine ah [.ret (dB (decide (x.cS=y.cS)))] ?_;by_cases q1:x.tx=y.tx
 case neg =>
  have d:¬ x=y:=fun e=>q1 (c.1 e).1
  simp [q1,d]
 by_cases b:x.term=y.term
 case neg =>
  have d:¬ x=y:=fun e=>b (c.1 e).2.1
  simp [q1,b,d]
 have a:decide (x=y)=decide (x.cS=y.cS):=Hr.2 (c.trans ⟨fun h=>h.2.2,fun h=>⟨q1,b,h⟩⟩);rw [a];simp [q1,b];exact k
theorem acs(x y:Tg):PC 33 [aX x,aX y] (.ret (dB (decide (x=y)))):=by
 refine aG aH Yr (by simp [a33]) fun i=>?_
 have k:=eqI x.cS y.cS;have c:x=y↔x.tx=y.tx/\x.term=y.term/\x.cS=y.cS:=⟨fun e=>by subst e;exact⟨rfl,rfl,rfl⟩,fun⟨f,g,a⟩=>by cases x;cases y;simp at f g a;simp [f,g,a]⟩;simp [a33,aX,dT];refine ah [.ret (dB (decide (x.cS=y.cS)))] ?_;by_cases q1:x.tx=y.tx
 case neg =>
  have d:¬ x=y:=fun e=>q1 (c.1 e).1
  simp [q1,d]
 by_cases b:x.term=y.term
 case neg =>
  have d:¬ x=y:=fun e=>b (c.1 e).2.1
  simp [q1,b,d]
 have a:decide (x=y)=decide (x.cS=y.cS):=Hr.2 (c.trans ⟨fun h=>h.2.2,fun h=>⟨q1,b,h⟩⟩);rw [a];simp [q1,b];exact k
theorem acu(a b:List Tg):PC 38 [.sl 3 (a.map aX),.sl 3 (b.map aX)] (.ret (dB (decide (a=b)))):=by
 refine aG aH Yw (by simp [CT]) fun j=>?_
 have l:=(j (.sl 3 (a.map aX)) (by simp)).sl.1;simp at l;simp [CT];refine⟨fun m=>aP ?_,fun o=>?_⟩
 ·have:a≠b:=fun e=>m (by rw [e])
  simp [this]
 ·refine bm [0,1] Nat (fun k=>[(5,true,.d (dI k))]) (fun k=>[]) (fun k=>k<=a.length/\a.take k=b.take k) (fun k=>a.length-k) 0 (by simp) ⟨[],[],?_⟩ (fun k h=>?_)
  ·simp
  obtain⟨p,i⟩:=h;simp;refine⟨fun d=>?_,fun q=>?_⟩
  ·have f:k<b.length:=by omega
   have g:=acr a[k] b[k];refine bY [.ret (dB (decide (a[k]=b[k])))] ?_;by_cases c:a[k]=b[k]
   ·simp [c] at g;simp [d,f,c];refine⟨g,rfl,k+1,⟨by omega,oX i d f c⟩,by omega,[],[],?_⟩;rw [wrap64 (by omega)];simp
   ·simp [c] at g;simp [d,f,c,oY d f c];exact⟨g,rfl⟩
  ·have h:k=a.length:=by omega
   subst h;have n:a.length=b.length:=by omega
   rw [eK,n,eK] at i;simp [i]
theorem acv(a b:List Tg):PC 12 [.sl 3 (a.map aX),.sl 3 (b.map aX)] (.ret (dB (decide (b.length<=a.length)&&decide (a.take b.length=b)))):=by
 refine aG aH Ye (by simp [a12]) fun d=>?_
 have k:=acu (a.take b.length) b;rw [tg] at k;simp [a12];refine ah [.ret (dB (decide (a.take b.length=b)))] ?_;by_cases q:b.length<=a.length
 ·have c:(b.length:Int)<=(a.length:Int):=by omega
  simp [q,c];exact k
 ·have c:¬ (b.length:Int)<=(a.length:Int):=by omega
  simp [q,c]
end
section
attribute [local simp] cK cI cJ cG cH cd bS cA ss ui uj nE nF nG mq mr mu sj sk sm
def b'(l:List Ce):D:=.sl 2 (l.map cm)
theorem wJ(l:List Ce):(b' l).cells=[b' l]:=rfl
theorem wK(l:List Ce):(b' l).isAgg=false:=rfl
theorem wL(l:List Ce):(AV.d (b' l)).cg=true:=rfl
theorem wM(l:List Ce):(b' l).one=true:=rfl
attribute [local simp] wJ wK wL wM
theorem nL(h:List (Nat×HO)):∀ a:List D,gK h (a.map AV.d)=some (a,false)
 | []=>rfl
 | c::r=>by simp [gK,nL h r]
inductive sv {α:Type}(d:α->D) (f:FuncId) (az:List D) (p:α->Bool):FuncId->List D->Out->Prop
 | call (b:α):sv d f az p f (d b::az) (.ret (dB (p b)))
theorem wN{e:Type}{d:e->D}{f:FuncId}{i:List D}{p:e->Bool}(h:∀ b,PC f (d b::i) (.ret (dB (p b)))):∀ g a c,sv d f i p g a c->PC g a c:=by
 intro g a c j;cases j with
 | call b=>exact h b
theorem acw{f:FuncId}{d:List D}{p:Ce->Bool}(h:∀ b,PC f (cm b::d) (.ret (dB (p b))))(l:List Ce):PC 128 [.sl 2 (l.map cm),.fn (.func f) [] d] (.ret (dI (fK p l))):=by
 refine aG (wN h) ZM (by simp [DM]) fun o=>?_
 have q:=(o (.sl 2 (l.map cm)) (by simp)).sl.1;simp at q;simp [DM];refine bm [0,1,7] Nat (fun y=>[(8,true,.d (dI y))]) (fun y=>[]) (fun y=>y<=l.length/\∀ j,(a:j<l.length)->j<y->p l[j]=false) (fun y=>l.length-y) 0 ⟨bp _,fun j a r=>absurd r (pG _)⟩ ⟨[],[],?_⟩ (fun k n=>?_)
 ·simp
 obtain⟨n,m⟩:=n;by_cases c:k<l.length
 ·have s:=wS k (by omega);have g:sv cm f d p f (cm l[k]::d) (.ret (dB (p l[k]))):=.call l[k];simp [c];refine ah [.ret (dB (p l[k]))] ?_;cases i:p l[k] with
  | true =>rw [i] at g;rw [qz c (fun j a=>m j (by omega) a) i];simp [c,nL];exact g
  | false =>
   rw [i] at g;simp [c,nL];refine⟨g,k+1,⟨by omega,fun j a t=>?_⟩,by omega,[],[],?_⟩
   ·by_cases e:j=k
    ·subst e;exact i
    ·exact m j a (by omega)
   ·simp [s]
 ·rw [qA (fun j a=>m j a (by omega))];simp [c]
inductive EV (f:FuncId) (az:List D) (p:Ce->Bool):FuncId->List D->Out->Prop
 | ix (l:List (Ce)):EV f az p 128 [.sl 2 (l.map cm),.fn (.func f) [] az] (.ret (dI (fK p l)))
theorem acx{f:FuncId}{az:List D}{p:Ce->Bool}(h:∀ b,PC f (cm b::az) (.ret (dB (p b))))(l:List (Ce)):PC 60 [.sl 2 (l.map cm),.fn (.func f) [] az] (.ret (dB (l.any p))):=by
 have d:∀ g a c,EV f az p g a c->PC g a c:=by
  intro g a c e;cases e with
  | ix l=>exact acw h l
 refine aG d YN (by simp [a60]) fun j=>?_
 have i:EV f az p 128 [.sl 2 (l.map cm),.fn (.func f) [] az] (.ret (dI (fK p l))):=.ix l;simp [a60];refine ah [.ret (dI (fK p l))] ?_;simp [<- qy];exact i
theorem acy{f:FuncId}{d:List D}{p:List Ce->Bool}(h:∀ b,PC f (b' b::d) (.ret (dB (p b))))(l:List (List Ce)):PC 115 [.sl 1 (l.map b'),.fn (.func f) [] d] (.ret (dI (fK p l))):=by
 refine aG (wN h) ZD (by simp [DF]) fun o=>?_
 have q:=(o (.sl 1 (l.map b')) (by simp)).sl.1;simp at q;simp [DF];refine bm [0,1,7] Nat (fun y=>[(8,true,.d (dI y))]) (fun y=>[]) (fun y=>y<=l.length/\∀ j,(a:j<l.length)->j<y->p l[j]=false) (fun y=>l.length-y) 0 ⟨bp _,fun j a r=>absurd r (pG _)⟩ ⟨[],[],?_⟩ (fun k n=>?_)
 ·simp
 obtain⟨n,m⟩:=n;by_cases c:k<l.length
 ·have s:=wS k (by omega);have g:sv b' f d p f (b' l[k]::d) (.ret (dB (p l[k]))):=.call l[k];simp [c];refine ah [.ret (dB (p l[k]))] ?_;cases i:p l[k] with
  | true =>rw [i] at g;rw [qz c (fun j a=>m j (by omega) a) i];simp [c,nL];exact g
  | false =>
   rw [i] at g;simp [c,nL];refine⟨g,k+1,⟨by omega,fun j a t=>?_⟩,by omega,[],[],?_⟩
   ·by_cases e:j=k
    ·subst e;exact i
    ·exact m j a (by omega)
   ·simp [s]
 ·rw [qA (fun j a=>m j a (by omega))];simp [c]
inductive EW (f:FuncId) (az:List D) (p:List Ce->Bool):FuncId->List D->Out->Prop
 | ix (l:List (List Ce)):EW f az p 115 [.sl 1 (l.map b'),.fn (.func f) [] az] (.ret (dI (fK p l)))
theorem LD{f:FuncId}{az:List D}{p:List Ce->Bool}(h:∀ b,PC f (b' b::az) (.ret (dB (p b))))(l:List (List Ce)):PC 53 [.sl 1 (l.map b'),.fn (.func f) [] az] (.ret (dB (l.any p))):=by
 have d:∀ g a c,EW f az p g a c->PC g a c:=by
  intro g a c e;cases e with
  | ix l=>exact acy h l
 refine aG d YG (by simp [a53]) fun j=>?_
 have i:EW f az p 115 [.sl 1 (l.map b'),.fn (.func f) [] az] (.ret (dI (fK p l))):=.ix l;simp [a53];refine ah [.ret (dI (fK p l))] ?_;simp [<- qy];exact i
end
section
attribute [local simp] cK cI cJ cG cH cd bS cA ss ui uj wJ wK wL wM gP
def eT:List Ce->B8
 | []=>[]
 | c::r=>if c.tx=[] then eT r else c.tx
theorem acz(l:List Ce):PC 52 [b' l] (.ret (dB (decide (64<l.length)))):=by
 refine aG aH YF (by simp [yJ]) fun b=>?_
 by_cases q:64<l.length
 ·have a:(64:Int)<(l.length:Int):=by omega
  simp [yJ,b',q,a]
 ·have a:¬ (64:Int)<(l.length:Int):=by omega
  simp [yJ,b',q,a]
theorem acA(l:List Ce):PC 58 [b' l] (.ret (dB (decide (16<l.length)))):=by
 refine aG aH YL (by simp [a58]) fun b=>?_
 by_cases q:16<l.length
 ·have a:(16:Int)<(l.length:Int):=by omega
  simp [a58,b',q,a]
 ·have a:¬ (16:Int)<(l.length:Int):=by omega
  simp [a58,b',q,a]
theorem LF(l:List Ce):PC 56 [b' l] (.ret (dT (eT l))):=by
 refine aG aH YJ (by simp [C_]) fun e=>?_
 have f:=(show Real (.sl 2 (l.map cm)) from e (b' l) (by simp)).sl.1;simp at f;simp [C_,b'];refine bm [5,6] Nat (fun y=>[(7,true,.d (dI y))]) (fun y=>[]) (fun y=>y<=l.length/\eT l=eT (l.drop y)) (fun y=>l.length-y) 0 ⟨bp _,rfl⟩ ⟨[],[],?_⟩ (fun k d=>?_)
 ·simp
 obtain⟨d,b⟩:=d;by_cases c:k<l.length
 ·have g:=wS k (by omega);rw [fF c,eT] at b;by_cases q:l[k].tx=[]
  ·rw [aj q] at b;simp [c,cm,dT,q];refine⟨k+1,⟨by omega,b⟩,by omega,[],[],?_⟩;simp [g]
  ·rw [ab q] at b;rw [b];have i:l[k].tx.isEmpty=false:=by
    cases h:l[k].tx with
    | nil=>exact absurd h q
    | cons a r=>rfl
   simp [c,cm,dT,q,i]
 ·rw [vj (by omega)] at b;rw [b];simp [c];exact aP rfl
def jY(c:Ce):Bool:=(decide (¬ c.tx=[])||decide (0<c.al.length))&&!hL c
theorem acB(c:Ce):PC 59 [cm c] (.ret (dB (jY c))):=by
 refine aG aH YM (by simp [a59]) fun i=>?_
 have k:=Lu c;simp [a59,cm,dT];unfold jY;refine ah [.ret (dB (hL c))] ?_;by_cases q:c.tx=[]
 ·by_cases b:0<c.al.length
  ·have d:(0:Int)<(c.al.length:Int):=by omega
   have f:¬ c.al=[]:=fun e=>by rw [e] at b;exact absurd b (Nat.lt_irrefl 0)
   simp [q,b,d,f];rw [show bs []=bs c.tx from by rw [q]];exact k
  ·have d:¬ (0:Int)<(c.al.length:Int):=by omega
   have f:c.al=[]:=PR.1 (by omega);simp [q,b,d,f]
 ·have g:c.tx.isEmpty=false:=by
   cases h:c.tx with
   | nil=>exact absurd h q
   | cons a r=>rfl
  simp [q,g];exact k
end

end Go.Proofs.YtloccchppmffpaaGreatDoor
