import Derived.Test.YteehpeajjbkjnaaGreatDoorAl
import Derived.KernelRfl
import Derived.Lib.AtoiErrMem
import Derived.Lib.Bytealg
import Derived.Lib.ItoaNum
import Derived.Lib.ParseIntB
import Derived.Test.YteehpeajjbkjnaaGreatDoorAh
import Derived.Test.YteehpeajjbkjnaaGreatDoorAk
import Derived.Test.YteehpeajjbkjnaaGreatDoorAj
import Derived.Test.YteehpeajjbkjnaaGreatDoorAa
set_option maxRecDepth 100000
set_option linter.all false
noncomputable section
namespace Go.Hf
open Go.RowKit
section
variable[Tok] {u:Fn}{b:Nat}
theorem acp:(aco:ao)=aA 3000:=by rw[db];rfl
theorem aj5{a d:az}(g:a.length=7/\cg a=true)(hd:d.length=7/\cg d=true)(j:bf u 225 [.agg a] (.U true))(l:bf u 225 [.agg d] (.U true)):∃s e,xa u [.agg [aA 4,.s 0 0,.s 0 0,.s 0 0,.s 0 0,.s 0 0,.aN 7 [a,d]]] 0 .nil= .ok (.U true) 0 s e:=by obtain⟨n,p⟩:=g;obtain⟨q,r⟩:=hd;have c:=ug (a:=a) (d:=d);have dB:=c.dB;have c8:=c.c8;have cX:=c.cX;have nc:=c.nc;have iH:=c.iH;have gD:=c.gD;have t3:=c.t3;have h:∀k:ao->ay,cv false (.aN 7 [a,d]) k=k (aA 2):=λk=>gC _ _ k;have t:([a,d]:bg)[0]? =some a:=rfl;have w:([a,d]:bg)[1]? =some d:=rfl;have es:∀k:ao->ay,cj (.s 0 0) (.s 0 0) k=k (.U true):=λk=>rfl;have i:∀k:ao->ay,iP false (.agg [.s 0 0,.s 0 0]) (.agg [.s 0 0,.s 0 0]) k=k (.U true):=λk=>rfl;generalize ([aA 4,.s 0 0,.s 0 0,.s 0 0,.s 0 0,.s 0 0,.aN 7 [a,d]]:az)=o at dB c8 cX nc iH gD t3;rw[xa,jp,Fc,b3,aH,Fb,av,dG gD,t3,iZ,i,bn,aH,av,aL,b8,cd,bA,bc,WJ,e4,cd,bA,bc,WI,fu,cd,bA,bc,WH,nU,cd,bM,bw,WG,dR,aH,av,aL,es,OR,cA,dR,aH,av,aL,es,OQ,cA,dR,aH,av,aL,es,OP,cA,dR,aH,av,aL,h,e4,cd,bM,OO,cA,dR,WF,aH,av,aL,b7,gQ,cI,aU,bE,a6,aq,a0,ON,cA,cl,dR,WE,aH,av,aL,b8,jC,cI,aU,bE,a6,aq,a0,cA,ra,bJ,dh,aq];exact b6
end
section
variable[Tok] {u:Fn}{b:Nat}
def dQ(n:Int):ao:= .s (Lib.itoa n).length (nk (Lib.itoa n))
def fw(p q:Int):az:=[aA 1,dQ p,dQ q,.s 0 0,.s 0 0,.s 0 0,.ba]
theorem acC(p q:Int):(fw p q).length=7:=rfl
theorem Ac(p q:Int):cg (fw p q)=true:=by unfold fw;rw[db];rfl
theorem fx(n:Int)(ob:dE)(f:gI):bi ob (dQ n) f=f (dQ n) []:=rfl
theorem kB(n:Int)(b:Nat)(rk:List Nat):k3 b rk (dQ n)=true:=rfl
theorem MG{n:Int}(k:ao->ay):cv true (dQ n) k=k (aA (Lib.itoa n).length):=by rw[db];have e:cv true (dQ n) k=k (.ag .i64 (Nat.add 18446744073709551616 (Lib.itoa n).length)):=rfl;rw[e];congr 2;rw[h5];omega
theorem apT{a c:Int}(q: -100000<=a/\a<=100000)(r: -100000<=c/\c<=100000)(k:ao->ay):dj (gR .mul (aA a) (aA c)) k=k (aA (a*c)):=by
 have h: -10000000000<=a*c/\a*c<=10000000000:=by
  have t:(a*c).natAbs<=100000*100000:=by rw[Int.natAbs_mul];exact AZ (by omega) (by omega)
  omega
 have e:gR .mul (aA a) (aA c)=some (aA (a*c)):=by
  rw[db,db,db];have j:gR .mul (.ag .i64 (a+18446744073709551616).toNat) (.ag .i64 (c+18446744073709551616).toNat)=(if-18446744073709551616<=IntKind.i64.wrap (intOf (a+18446744073709551616).toNat*intOf (c+18446744073709551616).toNat) then some (.ag .i64 (IntKind.i64.wrap (intOf (a+18446744073709551616).toNat*intOf (c+18446744073709551616).toNat)+18446744073709551616).toNat) else none):=rfl;have l:intOf (a+18446744073709551616).toNat=a:=by unfold intOf;omega
  have n:intOf (c+18446744073709551616).toNat=c:=by unfold intOf;omega
  have o:IntKind.i64.wrap (a*c)=a*c:=by generalize a*c=z at h;have p:IntKind.i64.wrap z=if(true&&decide (z%18446744073709551616≥9223372036854775808))=true then z%18446744073709551616-18446744073709551616 else z%18446744073709551616:=rfl;rw[p];by_cases w:0<=z;rw[dU (by rw[yI,nB];omega)];omega;rw[dr (by rw[yI,nB];omega)];omega
  rw[j,l,n,o,GG]
 rw[e];rfl
theorem LN:(LM:ao)=aA 9:=by rw[db];rfl
section
variable{a c b' d' g d:Int}
end
end
section
variable{p q:Int}
section
variable[Tok] {u:Fn}{b:Nat}
def bj(neg:Bool)(m:Nat):Int:=if neg then-(m:Int) else m
theorem GM(n x y:Bool)(k:ao->ay):xY n (.U x) (.U y) k=k (.U (xor n (x==y))):=by cases n<;>cases x<;>cases y<;>rfl
theorem acw(z:Bool):ao.U z≠ao.undef:=by simp
def afK(u:Fn)(p q e g:Int):Prop:=bf u 116 [dQ p,dQ q] (.bD [dQ e,dQ g])
theorem akd{e g:Int}(H:afK u p q e g):∃s d,FJ u [dQ p,dQ q] 0 .nil= .ok (.agg (fw e g)) 0 s d:=by
 have l:bf u 116 [dQ p,dQ q] (.bD [dQ e,dQ g]):=H;have i:∀f:az->ay,eu 0 1 br dD f=f [br,.s 0 0,.s 0 0,.s 0 0,.s 0 0,.s 0 0,.ba]:=λf=>rfl;have j:∀f:az->ay,eu 1 1 (dQ e) [br,.s 0 0,.s 0 0,.s 0 0,.s 0 0,.s 0 0,.ba] f=f [br,dQ e,.s 0 0,.s 0 0,.s 0 0,.s 0 0,.ba]:=λf=>rfl;have k:∀f:az->ay,eu 2 1 (dQ g) [br,dQ e,.s 0 0,.s 0 0,.s 0 0,.s 0 0,.ba] f=f (fw e g):=λf=>by
  have:fw e g=[br,dQ e,dQ g,.s 0 0,.s 0 0,.s 0 0,.ba]:=by unfold fw;rw[b8]
  rw[this];rfl
 have n:=Ac e g;have o:=acC e g;have h:∀z:Int,dQ z≠ao.undef:=λz=>by unfold dQ;simp
 rw[FJ,ep,XI,cF,XH,b4,fx,fx,aq,aq,a0,ez _ _ (h _),eA _ _ (h _),i,j,k,iZ,cM,adD,eU,aU,bJ,a6,aq];exact b6
theorem aka:∃s d,zn u [.agg (fw p q)] 0 .nil= .ok (.agg (fw p q)) 0 s d:=by have h:=Ac p q;have i:=acC p q;have dB:(fw p q)[0+0]? =some (aA 1):=rfl;rw[zn,jp,OH,b3,cF,OG,bn,aH,av,aL,b8,cd,bM,bw,av,aU,cM,Mk,eU,aU,bJ,a6,aq];exact b6
section
variable{a c b' d' e g:Int}
end
end
end
section
variable[Tok]
def kD:ao:= .s 4 0x75736572
def DD(i:Nat):ao:= .s 1 (0x78+i)
def gS(i:Nat):az:=kQ kD (DD i)
def eK(c:Rat):az:=fw c.num c.den
end
section
open Go.Proofs
def Ho(x:ao):Bool:= @ao.rec (λ_=>Bool) (λ_=>PUnit) (λ_=>PUnit) false (λ_=>false) (λ_ _=>false) (λ_ _=>false) true (λ_=>false) (λc _=>cg c) (λ_ _=>false) (λ_ _ _=>true) (λ_ _ _=>false) (λ_ _ _=>false) (λ_ _ _ _=>false) (λ_ _ _ _=>false) (λ_ _=>false) (λ_ _ _=>false) (λ_=>false) PUnit.unit (λ_ _ _ _=>PUnit.unit) PUnit.unit (λ_ _ _ _=>PUnit.unit) x
def Hm(l:az):Bool:= @List.rec ao (λ_=>Bool) true (λx _ a=> @Bool.rec (λ_=>Bool) false a (Ho x)) l
def v8(g:jj):jj:=λu args b a=>bB (Hm args) (@ay.rec (λ_=>ay) .aF (λr ub _ _=>bB (Nat.beq ub 0) (.ok r b a []) .aF) (g u args 0 .nil)) .aF
section
variable[Tok]
def Lx:my->List my->List my
 | .leaf f g,a=> .leaf f g::a
 | .node _ l r,a=>Lx l (Lx r a)
def Io(gl:eh)(P:Program):List my->Prop
 |[]=>True
 |x::r=>qz gl P x/\Io gl P r
theorem R3{gl:eh}{P:Program}:∀{T:my}{a:List my},Io gl P (Lx T a)->qz gl P T/\Io gl P a
 | .leaf _ _,_,h=>h
 | .node _ l r,_,h=>by obtain⟨b,c⟩:=R3 (T:=l) h;obtain⟨d,e⟩:=R3 (T:=r) c;exact⟨⟨b,d⟩,e⟩
abbrev bT(d:bI):my:= .leaf d.f (d.xz Tryz.prog)
def wJ(g c8 cX ih:jj):my:= .node 171 (.node 85 (.node 43 (.node 22 (.node 12 (.node 7 (.node 4 (.node 3 (.leaf 3 ik) (.leaf 4 jT)) (.node 5 (.leaf 5 jU) (.node 6 (.leaf 6 FG) (.leaf 7 FH)))) (.node 9 (.node 8 (.leaf 8 FM) (.leaf 9 FR)) (.node 10 (.leaf 10 pl) (.node 11 (.leaf 11 Et) (.leaf 12 UY))))) (.node 17 (.node 14 (.node 13 (bT d13) (bT d14)) (.node 15 (bT d15) (.node 16 (bT d16) (bT d17)))) (.node 19 (.node 18 (bT d18) (.leaf 19 n8)) (.node 20 (.leaf 20 EZ) (.node 21 (.leaf 21 BJ) (.leaf 22 E5)))))) (.node 32 (.node 27 (.node 24 (.node 23 (bT d23) (.leaf 24 sS)) (.node 25 (.leaf 25 Fk) (.node 26 (.leaf 26 Fl) (bT d27)))) (.node 29 (.node 28 (.leaf 28 sT) (bT d29)) (.node 30 (bT d30) (.node 31 (.leaf 31 JI) (.leaf 32 tY))))) (.node 37 (.node 34 (.node 33 (.leaf 33 Fz) (bT d34)) (.node 35 (bT d35) (.node 36 (bT d36) (.leaf 37 vA)))) (.node 40 (.node 38 (.leaf 38 FA) (.node 39 (.leaf 39 FB) (.leaf 40 kW))) (.node 41 (bT d41) (.node 42 (bT d42) (bT d43))))))) (.node 64 (.node 53 (.node 48 (.node 45 (.node 44 (bT d44) (.leaf 45 g)) (.node 46 (.leaf 46 c8) (.node 47 (bT d47) (bT d48)))) (.node 50 (.node 49 (bT d49) (bT d50)) (.node 51 (bT d51) (.node 52 (bT d52) (bT d53))))) (.node 58 (.node 55 (.node 54 (bT d54) (bT d55)) (.node 56 (bT d56) (.node 57 (bT d57) (bT d58)))) (.node 61 (.node 59 (.leaf 59 xf) (.node 60 (bT d60) (bT d61))) (.node 62 (bT d62) (.node 63 (bT d63) (bT d64)))))) (.node 74 (.node 69 (.node 66 (.node 65 (bT d65) (bT d66)) (.node 67 (bT d67) (.node 68 (bT d68) (.leaf 69 xh)))) (.node 71 (.node 70 (.leaf 70 tZ) (.leaf 71 FI)) (.node 72 (bT d72) (.node 73 (.leaf 73 FJ) (bT d74))))) (.node 79 (.node 76 (.node 75 (bT d75) (.leaf 76 FK)) (.node 77 (.leaf 77 B7) (.node 78 (.leaf 78 cX) (.leaf 79 FL)))) (.node 82 (.node 80 (.leaf 80 FN) (.node 81 (.leaf 81 B9) (bT d82))) (.node 83 (bT d83) (.node 84 (bT d84) (bT d85)))))))) (.node 128 (.node 107 (.node 96 (.node 91 (.node 88 (.node 86 (.leaf 86 xk) (bT d88)) (.node 89 (.leaf 89 xl) (.node 90 (.leaf 90 Cc) (.leaf 91 Cd)))) (.node 93 (.node 92 (.leaf 92 FT) (.leaf 93 (v8 vD))) (.node 94 (bT d94) (.node 95 (.leaf 95 ih) (bT d96))))) (.node 101 (.node 98 (.node 97 (.leaf 97 pT) (bT d98)) (.node 99 (bT d99) (.node 100 (bT d100) (bT d101)))) (.node 104 (.node 102 (bT d102) (.node 103 (bT d103) (bT d104))) (.node 105 (bT d105) (.node 106 (bT d106) (bT d107)))))) (.node 117 (.node 112 (.node 109 (.node 108 (bT d108) (bT d109)) (.node 110 (bT d110) (.node 111 (bT d111) (.leaf 112 wW)))) (.node 114 (.node 113 (.leaf 113 vp) (bT d114)) (.node 115 (bT d115) (.node 116 (.leaf 116 Ev) (bT d117))))) (.node 122 (.node 119 (.node 118 (.leaf 118 y7) (.leaf 119 (GA 5))) (.node 120 (bT d120) (.node 121 (bT d121) (bT d122)))) (.node 125 (.node 123 (.leaf 123 I4) (.node 124 (.leaf 124 y8) (bT d125))) (.node 126 (.leaf 126 Bo) (.node 127 (.leaf 127 za) (bT d128))))))) (.node 150 (.node 138 (.node 133 (.node 130 (.node 129 (bT d129) (bT d130)) (.node 131 (bT d131) (.node 132 (.leaf 132 U3) (bT d133)))) (.node 135 (.node 134 (.leaf 134 EB) (.leaf 135 wX)) (.node 136 (.leaf 136 tU) (.node 137 (.leaf 137 EG) (bT d138))))) (.node 144 (.node 141 (.node 140 (bT d140) (.leaf 141 Bt)) (.node 142 (.leaf 142 EH) (.node 143 (bT d143) (bT d144)))) (.node 147 (.node 145 (bT d145) (.node 146 (bT d146) (bT d147))) (.node 148 (bT d148) (.node 149 (.leaf 149 (Rf Go.Lib.itoa)) (.leaf 150 EI)))))) (.node 160 (.node 155 (.node 152 (.node 151 (.leaf 151 EK) (.leaf 152 EL)) (.node 153 (.leaf 153 EM) (.node 154 (bT d154) (bT d155)))) (.node 157 (.node 156 (bT d156) (.leaf 157 EN)) (.node 158 (.leaf 158 EO) (.node 159 (.leaf 159 wZ) (bT d160))))) (.node 165 (.node 162 (.node 161 (bT d161) (bT d162)) (.node 163 (bT d163) (.node 164 (.leaf 164 Jf) (bT d165)))) (.node 168 (.node 166 (bT d166) (.node 167 (bT d167) (.leaf 168 Vp))) (.node 169 (.leaf 169 vr) (.node 170 (.leaf 170 sQ) (.leaf 171 vt))))))))) (.node 306 (.node 227 (.node 195 (.node 183 (.node 176 (.node 173 (.node 172 (.leaf 172 BD) (bT d173)) (.node 174 (bT d174) (.node 175 (bT d175) (bT d176)))) (.node 178 (.node 177 (.leaf 177 vu) (bT d178)) (.node 181 (bT d181) (.node 182 (bT d182) (bT d183))))) (.node 188 (.node 185 (.node 184 (bT d184) (bT d185)) (.node 186 (bT d186) (.node 187 (bT d187) (bT d188)))) (.node 192 (.node 190 (.leaf 190 ET) (.node 191 (.leaf 191 EU) (.leaf 192 EW))) (.node 193 (.leaf 193 EX) (.node 194 (bT d194) (bT d195)))))) (.node 211 (.node 206 (.node 203 (.node 199 (bT d199) (bT d203)) (.node 204 (bT d204) (.node 205 (.leaf 205 (Gy 183)) (.leaf 206 E0)))) (.node 208 (.node 207 (.leaf 207 (Gz Me Ai)) (bT d208)) (.node 209 (bT d209) (.node 210 (.leaf 210 E1) (.leaf 211 zi))))) (.node 220 (.node 213 (.node 212 (.leaf 212 zn) (bT d213)) (.node 214 (.leaf 214 E3) (.node 215 (.leaf 215 E4) (.leaf 220 E6)))) (.node 223 (.node 221 (.leaf 221 E7) (.node 222 (.leaf 222 E8) (bT d223))) (.node 225 (.leaf 225 xa) (.node 226 (bT d226) (bT d227))))))) (.node 258 (.node 240 (.node 234 (.node 230 (.node 229 (bT d229) (bT d230)) (.node 231 (bT d231) (.node 233 (bT d233) (bT d234)))) (.node 236 (.node 235 (.leaf 235 Fh) (bT d236)) (.node 238 (bT d238) (.node 239 (bT d239) (bT d240))))) (.node 246 (.node 243 (.node 241 (bT d241) (bT d243)) (.node 244 (bT d244) (.node 245 (bT d245) (bT d246)))) (.node 249 (.node 247 (bT d247) (.node 248 (bT d248) (bT d249))) (.node 253 (bT d253) (.node 257 (bT d257) (bT d258)))))) (.node 271 (.node 265 (.node 260 (.node 259 (bT d259) (bT d260)) (.node 261 (bT d261) (.node 264 (bT d264) (bT d265)))) (.node 267 (.node 266 (bT d266) (bT d267)) (.node 268 (.leaf 268 Fm) (.node 269 (.leaf 269 Fo) (.leaf 271 Fp))))) (.node 277 (.node 273 (.node 272 (.leaf 272 Fq) (.leaf 273 Fr)) (.node 274 (bT d274) (.node 276 (bT d276) (bT d277)))) (.node 285 (.node 278 (bT d278) (.node 284 (bT d284) (bT d285))) (.node 288 (bT d288) (.node 291 (bT d291) (bT d306)))))))) (.node 433 (.node 337 (.node 317 (.node 312 (.node 308 (.node 307 (bT d307) (bT d308)) (.node 309 (bT d309) (.node 311 (bT d311) (bT d312)))) (.node 314 (.node 313 (bT d313) (bT d314)) (.node 315 (bT d315) (.node 316 (bT d316) (bT d317))))) (.node 331 (.node 319 (.node 318 (.leaf 318 Fs) (bT d319)) (.node 320 (.leaf 320 Ft) (.node 323 (bT d323) (bT d331)))) (.node 334 (.node 332 (.leaf 332 (Gz Go.Lib.trimSpace NL)) (.node 333 (bT d333) (.leaf 334 (d334.Kq Tryz.prog [390])))) (.node 335 (bT d335) (.node 336 (bT d336) (bT d337)))))) (.node 380 (.node 375 (.node 345 (.node 339 (bT d339) (bT d345)) (.node 347 (bT d347) (.node 364 (bT d364) (bT d375)))) (.node 377 (.node 376 (bT d376) (bT d377)) (.node 378 (bT d378) (.node 379 (bT d379) (bT d380))))) (.node 394 (.node 386 (.node 383 (bT d383) (bT d386)) (.node 391 (bT d391) (.node 393 (bT d393) (bT d394)))) (.node 421 (.node 397 (bT d397) (.node 410 (bT d410) (bT d421))) (.node 428 (.leaf 428 Rd) (.node 429 (bT d429) (bT d433))))))) (.node 522 (.node 478 (.node 443 (.node 436 (.node 434 (bT d434) (bT d436)) (.node 437 (bT d437) (.node 440 (bT d440) (bT d443)))) (.node 454 (.node 452 (bT d452) (bT d454)) (.node 471 (bT d471) (.node 476 (bT d476) (bT d478))))) (.node 511 (.node 480 (.node 479 (bT d479) (bT d480)) (.node 486 (bT d486) (.node 487 (bT d487) (.leaf 511 Re)))) (.node 519 (.node 516 (bT d516) (.node 517 (bT d517) (bT d519))) (.node 520 (bT d520) (.node 521 (bT d521) (bT d522)))))) (.node 567 (.node 559 (.node 524 (.node 523 (bT d523) (bT d524)) (.node 527 (bT d527) (.node 541 (bT d541) (bT d559)))) (.node 561 (.node 560 (bT d560) (bT d561)) (.node 564 (bT d564) (.node 565 (bT d565) (bT d567))))) (.node 600 (.node 597 (.node 585 (bT d585) (bT d597)) (.node 598 (bT d598) (.node 599 (bT d599) (bT d600)))) (.node 605 (.node 603 (bT d603) (.node 604 (bT d604) (bT d605))) (.node 616 (bT d616) (.node 629 (bT d629) (bT d630)))))))))
def bX:my:=wJ Xm Pd zv ws
end
end
section
variable{a b:Bool}
def wr(x:ao)(d:Bool->Bool)(g:IntKind->Nat->Bool)(h:Nat->Nat->Bool)(fn:Bool)(i:Value->Bool)(j k:az->Bool)(l:Nat->bg->Bool)(n:Nat->Bool):Bool:=
 @ao.rec (λ_=>Bool) (λ_=>PUnit) (λ_=>PUnit) false d g h fn i (λc _=>j c) (λc _=>k c) (λs e _=>l s e) (λ_ _ _=>false) (λ_ _ _=>false) (λ_ _ _ _=>false) (λ_ _ _ _=>false) (λ_ _=>false) (λ_ _ _=>false) n PUnit.unit (λ_ _ _ _=>PUnit.unit) PUnit.unit (λ_ _ _ _=>PUnit.unit) x
def hZ{α:Type}(_:α):Bool:=false
def lm{α c:Type}(_:α)(_:c):Bool:=false
def GJ:Value->Bool
 | .nilIface=>true
 |_=>false
theorem aa7{v:Value}(h:GJ v=true):v= .nilIface:=by cases v<;>first|rfl|cases h
def Zz(a b:Bool):Bool:= @Bool.rec (λ_=>Bool) (gu b) b a
theorem amu(h:Zz a b=true):a=b:=by cases a<;>cases b<;>first|rfl|cases h
def KE(a:Bool)(y:ao):Bool:=wr y (Zz a) lm lm false hZ hZ hZ lm hZ
def KG(k:IntKind)(n:Nat)(y:ao):Bool:=wr y hZ (λc d=>c7 (pn k c) (Nat.beq n d)) lm false hZ hZ hZ lm hZ
def KK(l n:Nat)(y:ao):Bool:=wr y hZ lm (λl' c=>c7 (Nat.beq l l') (Nat.beq n c)) false hZ hZ hZ lm hZ
def KJ(y:ao):Bool:=wr y hZ lm lm true hZ hZ hZ lm hZ
def KF(v:Value)(y:ao):Bool:=wr y hZ lm lm false (λc=>c7 (GJ v) (GJ c)) hZ hZ lm hZ
def KD(_:az)(c:az->Bool)(y:ao):Bool:=wr y hZ lm lm false hZ c hZ lm hZ
def KL(_:az)(c:az->Bool)(y:ao):Bool:=wr y hZ lm lm false hZ hZ c lm hZ
def KI(sz:Nat)(_:bg)(c:bg->Bool)(y:ao):Bool:=wr y hZ lm lm false hZ hZ hZ (λs e=>c7 (Nat.beq sz s) (c e)) hZ
def KH(i:Nat)(y:ao):Bool:=wr y hZ lm lm false hZ hZ hZ lm (Nat.beq i)
def Cx{α:Type}(l:List α):Bool:= @List.rec α (λ_=>Bool) true (λ_ _ _=>false) l
def Cy{α:Type}(_:α)(_:List α)(c:α->Bool)(vS:List α->Bool)(l:List α):Bool:= @List.rec α (λ_=>Bool) false (λh t _=>c7 (c h) (vS t)) l
abbrev Ec:ao->Type:=λ_=>ao->Bool
abbrev Ed:az->Type:=λ_=>az->Bool
abbrev Ee:bg->Type:=λ_=>bg->Bool
def vL(x:ao):ao->Bool:=
 @ao.rec Ec Ed Ee hZ KE KG KK KJ KF KD KL KI (λ_ _ _ _=>false) (λ_ _ _ _=>false) (λ_ _ _ _ _=>false) (λ_ _ _ _ _=>false) (λ_ _ _=>false) (λ_ _ _ _=>false) KH Cx Cy Cx Cy x
def Gs(x:az):az->Bool:=
 @ao.rec_1 Ec Ed Ee hZ KE KG KK KJ KF KD KL KI (λ_ _ _ _=>false) (λ_ _ _ _=>false) (λ_ _ _ _ _=>false) (λ_ _ _ _ _=>false) (λ_ _ _=>false) (λ_ _ _ _=>false) KH Cx Cy Cx Cy x
def KC(x:bg):bg->Bool:=
 @ao.rec_2 Ec Ed Ee hZ KE KG KK KJ KF KD KL KI (λ_ _ _ _=>false) (λ_ _ _ _=>false) (λ_ _ _ _ _=>false) (λ_ _ _ _ _=>false) (λ_ _ _=>false) (λ_ _ _ _=>false) KH Cx Cy Cx Cy x
theorem sH(h:c7 a b=true):a=true/\b=true:=by cases a<;>cases b<;>first|exact⟨rfl,rfl⟩|cases h
theorem amx{k c:IntKind}(h:pn k c=true):k=c:=by cases k<;>cases c<;>first|rfl|exact absurd h (by simp[pn,L6])
theorem QR(x:ao):∀y,vL x y=true->x=y:=by
 refine @ao.rec (λx=>∀y,vL x y=true->x=y) (λl=>∀l',Gs l l'=true->l=l') (λl=>∀l',KC l l'=true->l=l')
  (λy h=>by cases h) (λa y h=>?_) (λk n y h=>?_) (λl n y h=>?_) (λy h=>?_) (λv y h=>?_) (λcs d y h=>?_) (λcs d y h=>?_) (λsz es d y h=>?_)
  (λ_ _ _ y h=>by cases h) (λ_ _ _ y h=>by cases h) (λ_ _ _ _ y h=>by cases h) (λ_ _ _ _ y h=>by cases h) (λ_ _ y h=>by cases h) (λ_ _ _ y h=>by cases h) (λi y h=>?_)
  (λl h=>?_) (λa l d o l' h=>?_) (λl h=>?_) (λa l d o l' h=>?_) x
 change KE a y=true at h;cases y with
 |U c=>rw[amu (a:=a) (b:=c) h]
 |_=>cases h
 change KG k n y=true at h;cases y with
 |ag q p=>obtain⟨e,g⟩:=sH (a:=pn k q) (b:=Nat.beq n p) h;rw[amx e,e8 g]
 |_=>cases h
 change KK l n y=true at h;cases y with
 |s l' p=>obtain⟨e,g⟩:=sH (a:=Nat.beq l l') (b:=Nat.beq n p) h;rw[e8 e,e8 g]
 |_=>cases h
 ·change KJ y=true at h;cases y<;>first|(cases h;done)|rfl
 change KF v y=true at h;cases y with
 |bo t=>obtain⟨e,g⟩:=sH (a:=GJ v) (b:=GJ t) h;rw[aa7 e,aa7 g]
 |_=>cases h
 change KD cs (Gs cs) y=true at h;cases y with
 |agg c=>rw[d c h]
 |_=>cases h
 change KL cs (Gs cs) y=true at h;cases y with
 |bD c=>rw[d c h]
 |_=>cases h
 change KI sz es (KC es) y=true at h;cases y with
 |aN u ea=>obtain⟨e,g⟩:=sH (a:=Nat.beq sz u) (b:=KC es ea) h;rw[e8 e,d ea g]
 |_=>cases h
 change KH i y=true at h;cases y with
 |tok j=>rw[e8 (n:=i) (m:=j) h]
 |_=>cases h
 cases l with
 |nil=>rfl
 |cons _ _=>cases h
 cases l' with
 |nil=>cases h
 |cons b r=>change c7 (vL a b) (Gs l r)=true at h;rw[d _ (sH h).1,o _ (sH h).2]
 cases l with
 |nil=>rfl
 |cons _ _=>cases h
 cases l' with
 |nil=>cases h
 |cons b r=>change c7 (Gs a b) (KC l r)=true at h;rw[d _ (sH h).1,o _ (sH h).2]
def iu(a:ay)(r:ao):Bool:= @ay.rec (λ_=>Bool) false (λc ub _ _=>c7 (Nat.beq ub 0) (vL r c)) a
theorem hF{a:ay}{r:ao}(h:iu a r=true):∃s d,a= .ok r 0 s d:=by
 cases a with
 |aF=>cases h
 |ok c ub s d=>obtain⟨e,g⟩:=sH (a:=Nat.beq ub 0) (b:=vL r c) h;have i:=e8 e;have j:=QR _ _ g;subst i;subst j;exact⟨s,d,rfl⟩
end
section
variable[Tok]
theorem bZ(f:Nat)(g:jj)(n:Nat)(h:bR bX (n+1) f=g (bR bX n):=by kernel_rfl):bR bX (n+1) f=g (bR bX n):=h
end
section
variable{A C:Fn->Prop}
section
variable[Tok]
def bV(C:Fn->Prop):Prop:=∃a,∀n,a<=n->C (bR bX n)
theorem bV.up(h:bV A)(s:∀n,A (bR bX n)->C (bR bX (n+1))):bV C:=by
 obtain⟨a,h⟩:=h;refine⟨a+1,λn b=>?_⟩;cases n with
 |zero=>omega
 |succ n=>exact s n (h n (by omega))
theorem bV.imp(h:bV A)(s:∀n,A (bR bX n)->C (bR bX n)):bV C:=by obtain⟨a,h⟩:=h;exact⟨a,λn b=>s n (h n b)⟩
theorem bV.and(h:bV A)(g:bV C):bV λu=>A u/\C u:=by obtain⟨a,h⟩:=h;obtain⟨M,g⟩:=g;exact⟨a+M,λn b=>⟨h n (by omega),g n (by omega)⟩⟩
theorem bV.hE(a:Nat)(h:∀n,C (bR bX (n+a))):bV C:=⟨a,λn b=>by have:=h (n-a);rwa [Nat.sub_add_cancel b]at this⟩
theorem bV.lL:bV λ_=>True:=⟨0,λ_ _=>trivial⟩
theorem eO{f n:Nat}{ps:az}{r:ao}(g:jj)(h:∃s d,g (bR bX n) ps 0 .nil= .ok r 0 s d)(e:bR bX (n+1) f=g (bR bX n):=by kernel_rfl):bf (bR bX (n+1)) f ps r:=by unfold bf;rw[e];exact h
end
end
section
variable[Tok]
def nj(a:ay):ay:= @ay.rec (λ_=>ay) .aF (λr ub _ _=> .ok r ub .nil []) a
theorem lN{u:Fn}{f:Nat}{ps:az}{r:ao}(h:nj (u f ps 0 .nil)= .ok r 0 .nil []):bf u f ps r:=by
 unfold bf;cases a:u f ps 0 .nil with
 |aF=>rw[a]at h;cases h
 |ok b ub s d=>rw[a]at h;have h':ay.ok b ub .nil []= .ok r 0 .nil []:=h;simp only[ay.ok.injEq]at h';exact⟨s,d,by rw[h'.1,h'.2.1]⟩
theorem aoS(n a c:Nat)(l:bg):nj (bR bX (n+9) 13 [.s a c,.aN 11 l] 0 .nil)= .ok (.agg (dI dH (.s a c) l)) 0 .nil []:=by kernel_rfl
theorem ao8(n a c:Nat)(l:bg):nj (bR bX (n+9) 23 [.s a c,.aN 11 l] 0 .nil)= .ok (.agg (dI kD (.s a c) l)) 0 .nil []:=by kernel_rfl
theorem aoR(n a c:Nat):nj (bR bX (n+9) 12 [.s a c] 0 .nil)= .ok (.agg (kQ kD (.s a c))) 0 .nil []:=by kernel_rfl
end
section
variable[Tok]
def iD(a c1 b c:Nat):az:=[aA 2,.s 0 0,.s 0 0,.s a c1,.s b c,.s 0 0,.ba]
def pM(a c:Nat):az:=[aA 3,.s 0 0,.s 0 0,.s 0 0,.s 0 0,.s a c,.ba]
def il(a d:az):az:=[aA 4,.s 0 0,.s 0 0,.s 0 0,.s 0 0,.s 0 0,.aN 7 [a,d]]
def jZ:bg:=[iD 4 0x6c697370 3 0x6e696c,iD 4 0x6c697370 1 0x74,iD 4 0x75736572 1 0x61,iD 4 0x75736572 1 0x62,iD 4 0x75736572 1 0x63,pM 0 0,pM 1 0x70,pM 2 0x7071]
def Dc:List (Int×Int):=[(-4,1),(4,1),(-3,1),(-2,1),(-1,1),(0,1),(1,1),(2,1),(3,1),(1,2),(-5,3)]
def nf:bg:=jZ++Dc.map λx=>fw x.1 x.2
theorem abe(n:Nat):nj (bR bX (n+9) 41 [] 0 .nil)= .ok (.agg (iD 4 0x6c697370 3 0x6e696c)) 0 .nil []:=by kernel_rfl
theorem K7(n:Nat):nj (bR bX (n+9) 62 [] 0 .nil)= .ok (.agg (iD 4 0x6c697370 1 0x74)) 0 .nil []:=by kernel_rfl
theorem aoF(n a c1 b c:Nat):nj (bR bX (n+9) 74 [.agg [.s a c1,.s b c]] 0 .nil)= .ok (.agg (iD a c1 b c)) 0 .nil []:=by kernel_rfl
theorem aoG(n a c:Nat):nj (bR bX (n+9) 75 [.s a c] 0 .nil)= .ok (.agg (pM a c)) 0 .nil []:=by kernel_rfl
theorem RC(n a c:Nat):nj (bR bX (n+9) 15 [.s a c] 0 .nil)= .ok (.agg [kD,.s a c]) 0 .nil []:=by kernel_rfl
theorem aoP(n a c:Nat):nj (bR bX (n+9) 36 [.s a c] 0 .nil)= .ok (.agg [dH,.s a c]) 0 .nil []:=by kernel_rfl
theorem aoD(n:Nat):nj (bR bX (n+20) 73 [.s 1 0x31,.s 1 0x32] 0 .nil)= .ok (.agg (fw 1 2)) 0 .nil []:=by kernel_rfl
theorem aoE(n:Nat):nj (bR bX (n+20) 73 [.s 2 0x2d35,.s 1 0x33] 0 .nil)= .ok (.agg (fw (-5) 3)) 0 .nil []:=by kernel_rfl
theorem aoN(n:Nat):iu (bR bX (n+9) 34 [] 0 .nil) (.aN 1 [[.s 3 0x636172],[.s 3 0x636472],[.s 4 0x636f6e73],[.s 5 0x636f6e7370],[.s 3 0x6e6f74],[.s 5 0x657175616c],[.s 2 0x6966],[.s 8 0x62696e6172792d2b],[.s 1 0x3c],[.s 8 0x696e746567657270],[.s 3 0x6c656e],[.s 13 0x62696e6172792d617070656e64],[.s 3 0x726576],[.s 10 0x747275652d6c69737470],[.s 4 0x6e617470],[.s 4 0x706f7370],[.s 7 0x756e6172792d2d],[.s 8 0x62696e6172792d2a],[.s 7 0x696d706c696573],[.s 7 0x73796d626f6c70],[.s 9 0x726174696f6e616c70],[.s 3 0x666978],[.s 3 0x696666],[.s 4 0x6e666978],[.s 2 0x7a70]])=true:=by kernel_rfl
theorem aoO(n:Nat):iu (bR bX (n+9) 35 [] 0 .nil) (.aN 1 [[.s 3 0x647562],[.s 8 0x73616d652d6c656e],[.s 5 0x7061697273],[.s 4 0x64756273],[.s 4 0x74726565],[.s 5 0x6576656e73],[.s 4 0x6f646473],[.s 4 0x786f7232]])=true:=by kernel_rfl
theorem aoC(n:Nat):(nf.all λo=>iu (bR bX (n+40) 225 [.agg o] 0 .nil) (.U true))=true:=by kernel_rfl
def kn:List (Nat×Nat×Nat×Nat×Nat):=[(4,0x6c697370,3,0x636172,1),(4,0x6c697370,3,0x636472,1),(4,0x6c697370,4,0x636f6e73,2),(4,0x6c697370,5,0x636f6e7370,1),(4,0x6c697370,2,0x6966,3),(4,0x6c697370,8,0x696e746567657270,1),(4,0x6c697370,3,0x6c656e,1),(4,0x6c697370,13,0x62696e6172792d617070656e64,2),(4,0x6c697370,3,0x726576,1),(4,0x6c697370,10,0x747275652d6c69737470,1),(4,0x6c697370,4,0x6e617470,1),(4,0x6c697370,4,0x706f7370,1),(4,0x6c697370,7,0x696d706c696573,2),(4,0x6c697370,7,0x73796d626f6c70,1),(4,0x6c697370,9,0x726174696f6e616c70,1),(4,0x6c697370,3,0x666978,1),(4,0x6c697370,3,0x696666,2),(4,0x6c697370,4,0x6e666978,1),(4,0x6c697370,2,0x7a70,1),(4,0x75736572,3,0x647562,1),(4,0x75736572,8,0x73616d652d6c656e,2),(4,0x75736572,5,0x7061697273,2),(4,0x75736572,4,0x64756273,1),(4,0x75736572,4,0x74726565,1),(4,0x75736572,5,0x6576656e73,1),(4,0x75736572,4,0x6f646473,1),(4,0x75736572,4,0x786f7232,2)]
def lQ:List (Nat×Nat×Nat×Nat×Nat):=[(4,0x6c697370,3,0x6e6f74,1),(4,0x6c697370,5,0x657175616c,2),(4,0x6c697370,1,0x3c,2)]
def lP:List (Nat×Nat×Nat×Nat×Nat):=[(4,0x6c697370,8,0x62696e6172792d2b,2),(4,0x6c697370,8,0x62696e6172792d2a,2),(4,0x6c697370,7,0x756e6172792d2d,1)]
def eG(h:Nat×Nat×Nat×Nat×Nat)(l:bg):az:=dI (.s h.1 h.2.1) (.s h.2.2.1 h.2.2.2.1) l
end
def T4:List (Int×Int):=[(-31,2),
 (-29,2),
 (-27,2),
 (-25,2),
 (-23,2),
 (-21,2),
 (-19,2),
 (-17,2),
 (-15,2),
 (-13,2),
 (-11,2),
 (-9,2),
 (-7,2),
 (-5,2),
 (-3,2),
 (-1,2),
 (1,2),
 (3,2),
 (5,2),
 (7,2),
 (9,2),
 (11,2),
 (13,2),
 (15,2),
 (17,2),
 (19,2),
 (21,2),
 (23,2),
 (25,2),
 (27,2),
 (29,2),
 (31,2),
 (-104,3),
 (-101,3),
 (-98,3),
 (-95,3),
 (-94,3),
 (-92,3),
 (-91,3),
 (-89,3),
 (-88,3),
 (-86,3),
 (-85,3),
 (-83,3),
 (-82,3),
 (-80,3),
 (-79,3),
 (-77,3),
 (-76,3),
 (-74,3),
 (-73,3),
 (-71,3),
 (-70,3),
 (-68,3),
 (-67,3),
 (-65,3),
 (-64,3),
 (-62,3),
 (-61,3),
 (-59,3),
 (-58,3),
 (-56,3),
 (-55,3),
 (-53,3),
 (-52,3),
 (-50,3),
 (-49,3),
 (-47,3),
 (-46,3),
 (-44,3),
 (-43,3),
 (-41,3),
 (-40,3),
 (-38,3),
 (-37,3),
 (-35,3),
 (-34,3),
 (-32,3),
 (-31,3),
 (-29,3),
 (-28,3),
 (-26,3),
 (-25,3),
 (-23,3),
 (-22,3),
 (-20,3),
 (-19,3),
 (-17,3),
 (-16,3),
 (-14,3),
 (-13,3),
 (-11,3),
 (-10,3),
 (-8,3),
 (-7,3),
 (-5,3),
 (-4,3),
 (-2,3),
 (-1,3),
 (1,3),
 (2,3),
 (4,3),
 (5,3),
 (7,3),
 (8,3),
 (10,3),
 (11,3),
 (13,3),
 (14,3),
 (16,3),
 (17,3),
 (19,3),
 (20,3),
 (22,3),
 (23,3),
 (25,3),
 (26,3),
 (28,3),
 (29,3),
 (31,3),
 (32,3),
 (34,3),
 (35,3),
 (37,3),
 (38,3),
 (40,3),
 (41,3),
 (43,3),
 (44,3),
 (46,3),
 (47,3),
 (49,3),
 (50,3),
 (52,3),
 (53,3),
 (55,3),
 (56,3),
 (58,3),
 (59,3),
 (61,3),
 (62,3),
 (64,3),
 (65,3),
 (67,3),
 (68,3),
 (70,3),
 (71,3),
 (73,3),
 (74,3),
 (76,3),
 (77,3),
 (79,3),
 (80,3),
 (82,3),
 (83,3),
 (85,3),
 (86,3),
 (88,3),
 (89,3),
 (91,3),
 (92,3),
 (94,3),
 (95,3),
 (98,3),
 (101,3),
 (104,3),
 (-11,4),
 (-7,4),
 (-3,4),
 (-1,4),
 (1,4),
 (5,4),
 (9,4),
 (13,4),
 (-31,6),
 (-25,6),
 (-23,6),
 (-19,6),
 (-17,6),
 (-13,6),
 (-11,6),
 (-7,6),
 (-5,6),
 (-1,6),
 (1,6),
 (5,6),
 (7,6),
 (11,6),
 (13,6),
 (17,6),
 (19,6),
 (25,6),
 (31,6),
 (-25,9),
 (-2,9),
 (7,9),
 (16,9),
 (25,9),
 (34,9),
 (40,9),
 (43,9),
 (52,9),
 (23,12),
 (41,18)]
theorem gp{α:Type}{l:List α}{p:α->Bool}(h:l.all p=true){x:α}(a:x∈l):p x=true:=kg.1 h x a
section
variable[Tok]
end
structure afp (p q:Int):Prop where
 mem:(p,q)∈T4
def acM(c:Rat):Prop:=((c.den:Int)=1/\ -520<=c.num/\c.num<=520)\/afp c.num c.den
section
variable[Tok]
theorem G8(n:Int):eK n=fw n 1:=rfl
end
section
variable[Tok]
end
def SA(c:Rat):Bool:=(decide ((c.den:Int)=1)&&Nat.ble c.num.natAbs 520)||T4.any λr=>decide (r.1=c.num)&&decide (r.2=c.den)
theorem atF{c:Rat}(h:SA c=true):acM c:=by unfold SA at h;rw[oA,cC]at h;rcases h with h|h;have a:=qv h.1;have b:=dX h.2;exact .inl ⟨a,by omega,by omega⟩;obtain⟨r,d,h⟩:=nC.1 h;rw[cC]at h;have a:=qv h.1;have b:=qv h.2;exact .inr ⟨by rw[<-a,<-b];exact d⟩
section
variable[Tok]
theorem bV.run{C:Fn->Prop}(h:∀n,C (bR bX (n+9))):bV C:=bV.hE 9 h
section
end
end
section
variable{o t:az}{n c:Nat}
section
variable[Tok]
def Eb(o:az):Prop:=∃k a c1 b d e g h i j l,-1000<k/\k<1000/\l4 o k a c1 b d e g h i j l .ba
theorem abO:Eb dD:=⟨0,0,0,0,0,0,0,0,0,0,0,by omega,by omega,⟨by unfold dD;rw[b7],rfl⟩⟩
theorem aro(h:o∈nf):(∃b c1 d e,o=iD b c1 d e)\/(∃a c,o=pM a c)\/∃x∈Dc,o=fw x.1 x.2:=by unfold nf at h;rcases fq.1 h with h|h;simp only[jZ,e9,iV,iU]at h;rcases h with h|h|h|h|h|h|h|h;exact .inl ⟨_,_,_,_,h⟩;exact .inl ⟨_,_,_,_,h⟩;exact .inl ⟨_,_,_,_,h⟩;exact .inl ⟨_,_,_,_,h⟩;exact .inl ⟨_,_,_,_,h⟩;exact .inr (.inl ⟨_,_,h⟩);exact .inr (.inl ⟨_,_,h⟩);exact .inr (.inl ⟨_,_,h⟩);obtain⟨x,g,rfl⟩:=ia.1 h;exact .inr (.inr ⟨x,g,rfl⟩)
theorem abN(o:az)(h:o∈nf):Nx o:=by rcases aro h with⟨b,c1,d,e,rfl⟩|⟨a,c,rfl⟩|⟨x,_,rfl⟩;exact⟨2,_,_,_,_,_,_,_,_,_,_,by omega,by omega,⟨rfl,rfl⟩⟩;exact⟨3,_,_,_,_,_,_,_,_,_,_,by omega,by omega,⟨rfl,rfl⟩⟩;exact⟨1,_,_,_,_,_,_,_,_,_,_,by omega,by omega,⟨rfl,rfl⟩⟩
theorem RU(o:az)(h:o∈nf):Eb o:=by obtain⟨k,a,c1,b,d,e,g,i,j,l,p,r,u,q⟩:=abN o h;exact⟨k,a,c1,b,d,e,g,i,j,l,p,by omega,by omega,q⟩
abbrev kh (n c:Nat) (o:az):Prop:=rF (· ∈nf) n c o
abbrev kF (n c:Nat) (o:az):Prop:=rF Eb n c o
theorem kh.Hb(h:kh n c o):kF n c o:=by
 induction h with
 |leaf h=>exact .leaf (RU _ h)
 |cons _ _ a b=>exact .cons a b
theorem kh.mono(h:kh n c o):kh (n+1) c o:=by
 induction h with
 |leaf h=>exact .leaf h
 |cons _ _ a b=>exact .cons a b
theorem kF.mono(h:kF n c o):kF (n+1) c o:=by
 induction h with
 |leaf h=>exact .leaf h
 |cons _ _ a b=>exact .cons a b
theorem kF.le{m:Nat}(h:kF n c o)(a:n<=m):kF m c o:=by
 induction a with
 |refl=>exact h
 |step _ b=>exact b.mono
theorem kh.Co(h:kh n c o):c<2^(n+1):=by
 induction h with
 | @leaf n o h=>exact Nh (Nat.succ_ne_zero n)
 | @cons n c c' a d _ _ b e=>rw[m1 2 (n+1)];omega
theorem kF.v(h:kF n c o):∃k a c1 b g i j l p q r u,-1000<k/\k<1000/\l4 o k a c1 b g i j l p q r u/\((u= .ba)\/∃m d e x y,n=m+1/\u= .aN 7 [x,y]/\kF m d x/\kF m e y):=by
 cases h with
 |leaf h=>obtain⟨k,a,c1,b,g,i,j,l,p,q,r,w,z,A⟩:=h;exact⟨k,a,c1,b,g,i,j,l,p,q,r,.ba,w,z,A,.inl rfl⟩
 |cons B hd=>exact⟨4,_,_,_,_,_,_,_,_,_,_,_,by omega,by omega,ug,.inr ⟨_,_,_,_,_,rfl,rfl,B,hd⟩⟩
theorem kF.p(h:kF n c o):o.length=7/\cg o=true:=by obtain⟨k,b,c1,d,e,g,i,j,l,p,q,r,_,_,a,_⟩:=h.v;exact⟨a.ad,a.pure⟩
theorem amz:∀m,bV λu=>∀n c j c' x y,n<=m->kF n c x->kF j c' y->∃e,bf u 40 [.agg x,.agg y] (.U e)/\(x=y->e=true):=by
 have step:∀(P:Nat->az->Prop) (L:∀n c o,kF n c o->True) (m:Nat),(bV λu=>∀n c j c' x y,n<m->kF n c x->kF j c' y->∃e,bf u 40 [.agg x,.agg y] (.U e)/\(x=y->e=true))->bV λu=>∀n c j c' x y,n<=m->kF n c x->kF j c' y->∃e,bf u 40 [.agg x,.agg y] (.U e)/\(x=y->e=true):=by
  intro P L m C;refine C.up λN h n c j c' x y F M O=>?_;obtain⟨k,a1,c1,a2,c2,a3,c3,a4,c4,a5,c5,bx,l,r,w,Q⟩:=M.v;obtain⟨k',b1,d1,b2,d2,ik,d3,jT,d4,jU,d5,L',z,A,B,G⟩:=O.v;have R:∃e,(x=y->e=true)/\∃s d,kW (bR bX N) [.agg x,.agg y] 0 .nil= .ok (.U e) 0 s d:=by
   rcases Q with rfl|⟨S,cc,cn,cs,cu,eq,rfl,fP,T⟩;rcases G with rfl|⟨V,W,X,Y,Z,al,rfl,H,I⟩;exact Kg w B ⟨l,r⟩ ⟨z,A⟩ (.inl ⟨rfl,rfl⟩) (.inl ⟨rfl,rfl⟩) (by simp) (by simp) λi p q a g=>by simp at a
   exact Kg w B ⟨l,r⟩ ⟨z,A⟩ (.inl ⟨rfl,rfl⟩) (.inr rfl) (by simp) (by simp) λi p q a g=>by simp at a
   rcases G with rfl|⟨V,W,X,Y,Z,al,rfl,H,I⟩;exact Kg w B ⟨l,r⟩ ⟨z,A⟩ (.inr rfl) (.inl ⟨rfl,rfl⟩) (by simp) (by simp) λi p q a g=>by simp at g
   refine Kg w B ⟨l,r⟩ ⟨z,A⟩ (.inr rfl) (.inr rfl) (by simp) (by simp) λi p q a g=>?_;have ar:(∃d,kF (n-1) d p):=by
    have J:n-1=S:=by omega
    match i,a with
    |0,a=>simp at a;subst a;exact⟨_,by rw[J];exact fP⟩
    |1,a=>simp at a;subst a;exact⟨_,by rw[J];exact T⟩
    |_+2,a=>simp at a
   have bd:(∃m d,kF m d q):=by
    match i,g with
    |0,g=>simp at g;subst g;exact⟨_,_,H⟩
    |1,g=>simp at g;subst g;exact⟨_,_,I⟩
    |_+2,g=>simp at g
   obtain⟨cY,D⟩:=ar;obtain⟨c0,dd,E⟩:=bd;exact⟨D.p.1,D.p.2,E.p.1,E.p.2,h _ _ _ _ p q (by omega) D E⟩
  obtain⟨e,bs,h2⟩:=R;exact⟨e,eO kW h2,bs⟩
 intro m;induction m with
 |zero=>exact step (λ_ _=>True) (λ_ _ _ _=>trivial) 0 (bV.lL.imp λn _ j c K c' x y F=>by omega)
 |succ m C=>exact step (λ_ _=>True) (λ_ _ _ _=>trivial) (m+1) (C.imp λn h j c K c' x y F=>h j c K c' x y (by omega))
inductive GE:Nat->az->Prop
 |var (n a1 c1 a2 c2:Nat):GE n (kQ (.s a1 c1) (.s a2 c2))
 |gT (n m c:Nat) (o:az) (hm:m<=4) (h:kF m c o):GE n (fg o)
 |g3 (n a1 c1 a2 c2:Nat) (l:bg) (hl:l.length<900) (h:∀t∈l,GE n t):GE (n+1) (dI (.s a1 c1) (.s a2 c2) l)
theorem GE.v(h:GE n t):∃k e c1 g i o a b c,-1000<k/\k<1000/\lh t k (.s e c1) (.s g i) o a/\cE 11 a b/\b.length<900/\kF 4 c o/\(b=[]\/∃m,n=m+1/\∀t∈b,GE m t):=by
 have d:∃c,kF 4 c dD:=⟨1,.leaf abO⟩;obtain⟨j,d⟩:=d;cases h with
 |var n e c1 g i=>exact⟨1,_,_,_,_,_,_,[],j,by omega,by omega,uZ rfl,.inl ⟨rfl,rfl⟩,by simp,d,.inl rfl⟩
 |gT n m c o p h=>exact⟨2,_,_,_,_,_,_,[],c,by omega,by omega,qm h.p.1 h.p.2,.inl ⟨rfl,rfl⟩,by simp,h.le p,.inl rfl⟩
 |g3 n e c1 g i l q h=>exact⟨3,_,_,_,_,_,_,l,j,by omega,by omega,yB rfl,.inr rfl,q,d,.inr ⟨n,rfl,h⟩⟩
theorem GE.t11(h:GE n t):fR t:=by obtain⟨k,d,c1,e,g,o,a,i,c,_,_,b,_⟩:=h.v;exact⟨b.ad,b.ja⟩
end
end
section
variable[Tok]
theorem kh.le{n m c:Nat}{o:az}(h:kh n c o)(a:n<=m):kh m c o:=by
 induction a with
 |refl=>exact h
 |step _ b=>exact b.mono
theorem kh.p{n c:Nat}{o:az}(h:kh n c o):o.length=7/\cg o=true:=h.Hb.p
theorem pK(h:Nat×Nat×Nat×Nat×Nat)(l:bg):lh (eG h l) 3 (.s h.1 h.2.1) (.s h.2.2.1 h.2.2.2.1) dD (.aN 11 l):=yB rfl
end
def yi:List (Int×Int):=Dc.drop 2
def uN(x:Int×Int):Rat:=mkRat x.1 x.2.toNat
theorem arZ:(Dc.all λx=>decide ((uN x).num=x.1)&&(decide (((uN x).den:Int)=x.2)&&SA (uN x)))=true:=by kernel_rfl
theorem arY[Tok]{x:Int×Int}(h:x∈yi):fw x.1 x.2=eK (uN x)/\acM (uN x):=by have:=gp arZ (List.mem_of_mem_drop h);simp only[cC]at this;refine⟨?_,atF this.2.2⟩;unfold eK;rw[qv this.1,qv this.2.1]
section
variable[Tok]
section
end
end
section
variable[Tok]
inductive m2:az->Prop
 |nS (o:az) (h:o∈jZ):m2 o
 |Db (x:Int×Int) (h:x∈yi):m2 (fw x.1 x.2)
 |vF (n c c':Nat) (a d:az) (hn:n<=2) (ha:kh n c a) (hd:kh n c' d):m2 (il a d)
inductive rM:az->Prop
 |var (i:Nat) (hi:i<3):rM (gS i)
 |gT (o:az) (h:m2 o):rM (fg o)
theorem G7{x:Int×Int}(h:x∈yi):fw x.1 x.2∈nf:=AW _ (ia.2 ⟨x,List.mem_of_mem_drop h,rfl⟩)
theorem m2.am{o:az}(h:m2 o):∃n c,n<=3/\kh n c o:=by
 cases h with
 |nS o h=>exact⟨0,1,by omega,.leaf (qt _ h)⟩
 |Db x h=>exact⟨0,1,by omega,.leaf (G7 h)⟩
 |vF n c c' a d e b hd=>exact⟨n+1,_,by omega,.cons b hd⟩
theorem rM.ge{t:az}(h:rM t)(n:Nat):GE n t:=by
 cases h with
 |var i hi=>exact .var n _ _ _ _
 |gT o h=>obtain⟨m,c,b,a⟩:=h.am;exact .gT n m c o (by omega) a.Hb
theorem aep(h:Nat×Nat×Nat×Nat×Nat)(l:bg):fR (eG h l):=⟨(pK h l).ad,(pK h l).ja⟩
end
section
variable{aC:cD}{q s N d e sz f:Nat}{BX:ao}{h:aO}{cs args:az}{es:bg}{bL:Bool}{R:ao->Prop}
section
variable[Tok] {u:Fn}{b:Nat}
def oB(BX:ao)(N:Nat):Prop:=N<=1000/\((BX= .ba/\N=0)\/∃l,BX= .aN 1 l/\l.length=N/\∀r∈l,∃c:Nat,c<256/\r=[.ag .u8 (18446744073709551616+c)])
def ly(BX:ao):Prop:=∀b,oj b [BX]=true
theorem oB.ad{BX:ao}{N:Nat}(h:oB BX N):ly BX:=λb=>by rcases h.2 with⟨rfl,_⟩|⟨l,rfl,_⟩<;>rfl
structure eI (b:Nat) (aC:cD) (q s:Nat) (BX:ao) (N:Nat) (h:aO):Prop where
 lt:q<b
 jx:q%4096<2048
 ax:b+4096<=h.ax
 am:∃z:Nat,z<=N/\h.am q= .box s [BX,aA z]
 ck:∀k∈h.ck,k=q
 aj:∀k,k<b->k≠q->h.am k=b9 b aC k
 mH:ly BX
theorem eI.aK(H:eI b aC q s BX N h):cp h b:=⟨H.ax⟩
def gY(a:ay)(b:Nat)(aC:cD)(q s:Nat)(BX:ao)(N:Nat)(R:ao->Prop):Prop:=
 ∃r c d,∃z:Nat,a= .ok r b c d/\R r/\z<=N/\b9 b c q= .box s [BX,aA z]/\(∀k,k≠q->b9 b c k=b9 b aC k)/\∀k∈d,k=q
def gG(u:Fn)(f:Nat)(args:az)(BX:ao)(N:Nat)(R:ao->Prop):Prop:=ly BX->∀{b:Nat}{aC:cD}{q s z:Nat},q<b->q%4096<2048->z<=N->b9 b aC q= .box s [BX,aA z]->gY (u f (.aQ q s 0::args) b aC) b aC q s BX N R
theorem eI.start{z:Nat}(c:q<b)(g:q%4096<2048)(i:z<=N)(j:b9 b aC q= .box s [BX,aA z])(l:ly BX):eI b aC q s BX N (bN b aC):=
 ⟨c,g,dn _,⟨z,i,by rw[r3 aC c];exact j⟩,(λk a=>by cases a),λk a _=>r3 aC a,l⟩
theorem eI.dP{aC:cD}{q s N:Nat}{BX:ao}{h:aO}(H:eI b aC q s BX N h){d:Nat}{o:fb}(hd:d<4096:=by decide):eI b aC q s BX N (h.dP b d o):=by
 haveI:=H.aK
 refine⟨H.lt,H.jx,by rw[lC];exact H.ax,?_,?_,λk g i=>?_,H.mH⟩;obtain⟨z,j,l⟩:=H.am;refine⟨z,j,?_⟩;rw[(n6 (cp.lt hd)).am _ λc a=>by simp at a;have:=H.lt;omega];exact l;have e:(h.dP b d o).ck=h.ck:=(n6 (o:=o) (cp.lt hd)).ck;rw[e];exact H.ck;rw[(n6 (cp.lt hd)).am _ λc a=>by simp at a;omega];exact H.aj k g i
theorem eI.cB{t:Nat}(H:eI b aC q s BX N h)(hd:d<4096:=by decide):eI b aC q s BX N (h.cB b d t cs):=H.dP hd
theorem eI.dp(H:eI b aC q s BX N h)(hd:d<4096:=by decide):eI b aC q s BX N (h.dp b d cs):=H.dP hd
theorem eI.fc(H:eI b aC q s BX N h)(hd:d<4096:=by decide):eI b aC q s BX N (h.fc b d e sz es bL):=H.dP hd
theorem eI.je{a:Nat}(H:eI b aC q s BX N h)(hd:d<4096:=by decide):eI b aC q s BX N (h.je b d a e sz es bL):=H.dP hd
theorem abr(H:eI b aC q s BX N h)(C:gG u f args BX N R):∃r h',R r/\eI b aC q s BX N h'/\(∀k,k≠q->h'.am k=h.am k)/\∀k:dv,dC u b f (.aQ q s 0::args) [] h k=k r h':=by
 obtain⟨z,l,ho⟩:=H.am;obtain⟨ub,bj,dd⟩:=h;have n:b+4096<=ub:=H.ax;obtain⟨r,c,d,o,p,t,w,x,i,g⟩:= @C H.mH ub bj q s z (by have:=H.lt;omega) H.jx l ho;have hd:∀k∈aZ (fA b d) dd,k=q:=λk a=>by rw[kU,fq]at a;exact a.elim (λh=>g k (xI h)) (H.ck k)
 refine⟨r,.mk ub c (aZ (fA b d) dd),t,⟨H.lt,H.jx,n,⟨o,w,x⟩,hd,λk a j=>(i k j).trans (H.aj k a j),H.mH⟩,i,λk=>?_⟩;have g:dC u b f (.aQ q s 0::args) [] (.mk ub bj dd) k=js b ub dd k (u f (.aQ q s 0::args) ub bj):=rfl;rw[g,p];have y:js b ub dd k (.ok r ub c d)=bB (Nat.ble ub ub) (k r (.mk ub c (aZ (fA b d) dd))) .aF:=rfl;rw[y,eT,dJ (dn ub),da]
theorem aey{q:Nat}(a:e3 [4096,4098] (ir b q)=true):∀(d:List Nat),(∀k∈d,k=q)->wm b [4096,4098] d=true
 |[],_=>rfl
 |k::d,h=>by have e:wm b [4096,4098] (k::d)=c7 (e3 [4096,4098] (ir b k)) (wm b [4096,4098] d):=rfl;rw[e,h k fQ,a,aey a d λj c=>h j (ii _ c)];rfl
theorem apB{xs:az}(H:eI b aC q s BX N h)(C:gG u f args BX N R):∃r h',R r/\eI b aC q s BX N h'/\(∀k,k≠q->h'.am k=h.am k)/\∀k:dv,vV u b [4097] [4096,4098] xs f (.aQ q s 0::args) [] h k=k r h':=by
 obtain⟨z,l,ho⟩:=H.am;obtain⟨ub,bj,dd⟩:=h;have n:b+4096<=ub:=H.ax;obtain⟨r,c,d,o,p,t,w,x,g,i⟩:= @C H.mH ub bj q s z (by have:=H.lt;omega) H.jx l ho;have hd:∀k∈aZ (fA b d) dd,k=q:=λk a=>by rw[kU,fq]at a;exact a.elim (λh=>i k (xI h)) (H.ck k)
 refine⟨r,.mk ub c (aZ (fA b d) dd),t,⟨H.lt,H.jx,n,⟨o,w,x⟩,hd,λk a j=>(g k j).trans (H.aj k a j),H.mH⟩,g,λk=>?_⟩;have y:vV u b [4097] [4096,4098] xs f (.aQ q s 0::args) [] (.mk ub bj dd) k=GQ b [4097] [4096,4098] [] (aZ xs (.aQ q s 0::args)) ub bj dd k (u f (.aQ q s 0::args) ub bj):=rfl;rw[y,p];have A:GQ b [4097] [4096,4098] [] (aZ xs (.aQ q s 0::args)) ub bj dd k (.ok r ub c d)=
  bB (Nat.ble ub ub) (bB (wm b [4096,4098] d) (bB (Ab [4096,4098] ub ub) (bB true (k r (.mk ub c (aZ (fA b d) dd))) .aF) .aF) .aF) .aF:=rfl
 have B:Ab [4096,4098] ub ub=true:=by unfold Ab;rw[Nat.beq_refl]
 have D:e3 [4096,4098] (ir b q)=true:=by rw[uf];unfold gj;have F:=H.lt;have E:=H.jx;rw[r4,dr E];rfl
 rw[A,B,eT,dJ (dn ub),da,aey D d i,da,da,da]
theorem RZ{q s N:Nat}{BX:ao}{bj:cD}(a:oj b [BX]=true){z:Nat}(ho:(bj.get q).aj= .box s [BX,aA z]):∀d:List Nat,(∀k∈d,k=q)->kr b bj d=true
 |[],_=>rfl
 |k::d,h=>by
  have c:kr b bj (k::d)=c7 (uF b (bj.get k).aj) (kr b bj d):=rfl;have g:uF b (.box s [BX,aA z])=true:=by show oj b [BX,aA z]=true;rw[db];cases BX<;>first|exact a|rfl|cases a
  rw[c,h k fQ,ho,g,RZ (N:=N) a ho d λj i=>h j (ii _ i)];rfl
theorem S1{r:ao}(H:eI b aC q s BX N h)(i:R r):gY (im b r [] h) b aC q s BX N R:=by
 have j:=H.mH b;have l:=H.aj;obtain⟨z,n,ho⟩:=H.am;obtain⟨ub,bj,d⟩:=h;have w:b+4096<=ub:=H.ax;have c:=H.lt;have g:(bj.get q).aj= .box s [BX,aA z]:=by have:b9 ub bj q= .box s [BX,aA z]:=ho;rw[h7]at this;exact this
 have p:im b r [] (.mk ub bj d)= @Bool.rec (λ_=>ay) (.ok r ub bj d) (.ok r b (bj.drop b) d) (kr b bj d):=rfl;rw[p,RZ (N:=N) j g d H.ck];refine⟨r,bj.drop b,d,z,rfl,i,n,?_,λk t=>?_,H.ck⟩;rw[h7 c,cD.uq b bj q c];exact g;by_cases a:k<b;rw[h7 a,cD.uq b bj k a,<-l k a t];show _=b9 ub bj k;rw[h7];rw[mh,mh]
end
end
section
variable{aC:cD}{q s N:Nat}{BX:ao}
section
variable[Tok] {u:Fn}{b:Nat}
theorem i3(q s o:Nat)(k:ao->ay):lS (.aQ q s o) k=k (.aQ q s o):=ni rfl
theorem x9{h:aO}(H:eI b aC q s BX N h)(o:Nat)(z:ay):met b [4096] [.aQ q s o] z=z:=by
 have a:k3 b [4096] (.aQ q s o)=true:=by show e3 [4096] (ir b q)=true;rw[uf];unfold gj;have d:=H.lt;have c:=H.jx;rw[r4,dr c];rfl
 rw[be a,aP]
theorem apo{c:Nat}(g:c<256)(k:ao->ay):dj (qp .i64 (.ag .u8 (18446744073709551616+c))) k=k (aA c):=by
 have e:qp .i64 (.ag .u8 (18446744073709551616+c))=bif mP .i64 (18446744073709551616+c) then some (.ag .i64 (18446744073709551616+c)) else mL (.int .i64 (IntKind.i64.wrap (intOf (18446744073709551616+c)))):=rfl;have a:mP .i64 (18446744073709551616+c)=true:=by
  rw[<-xV];have:=K2 (c:=(c:Int)) (by omega) (by omega);have d:((c:Int)+18446744073709551616).toNat=18446744073709551616+c:=by omega
  rw[d]at this;exact this
 rw[e,a,e6,nR,db];congr 2;omega
theorem abz{a c:Int}(d:0<=a/\a<=1000:=by omega)(j:1<=c/\c<=1000:=by omega)(k:ao->ay):dj (gR .rem (aA a) (aA c)) k=k (aA (a%c)):=by
 have g:a.tmod c=a%c:=Int.tmod_eq_emod_of_nonneg d.1;have l:0<=a%c:=Int.emod_nonneg _ (by omega);have n:a%c<c:=Int.emod_lt_of_pos _ (by omega);have h:intOf (a+18446744073709551616).toNat=a:=by unfold intOf;omega
 have i:intOf (c+18446744073709551616).toNat=c:=by unfold intOf;omega
 have e:gR .rem (aA a) (aA c)=some (aA (a%c)):=by rw[db,db,db];simp only[gR,uW,e6,tb,wi,qo,h,i,kA,gF,dU (show c≠0 by omega),tH,g,mL];rw[GG]
 rw[e,nR]
def rE(n:Int)(r:ao):Prop:=∃k:Int,0<=k/\k<n/\r=aA k
theorem ak5{n:Int}(P:1<=n/\n<=100)(d:oB BX N){z:Nat}(j:q<b)(y:q%4096<2048)(E:z<=N)(A:b9 b aC q= .box s [BX,aA z]):gY (BJ u [.aQ q s 0,aA n] b aC) b aC q s BX N (rE n):=by
 have a:=eI.start j y E A d.ad;have Q:=d.1
 haveI:=a.aK
 have ho:(bN b aC).am q= .box s [BX,aA z]:=by rw[r3 aC j];exact A
 have dB:([BX,aA z]:az)[0+0]? =some BX:=rfl;have c8:([BX,aA z]:az)[0+1]? =some (aA z):=rfl;have B:∀k:ao->ay,cv false BX k=k (aA N):=λk=>by rcases d.2 with⟨rfl,rfl⟩|⟨l,rfl,C,_⟩;exact li k;rw[<-C];exact gC _ _ k
 by_cases F:z<N;obtain⟨l,rfl,C,G⟩:∃l,BX= .aN 1 l/\l.length=N/\∀r∈l,∃c:Nat,c<256/\r=[.ag .u8 (18446744073709551616+c)]:=by rcases d.2 with⟨_,h⟩|h;omega;exact h
 obtain⟨row,H⟩:∃row,l[z]? =some row:=⟨l[z]'(by omega),fo _⟩;obtain⟨c,I,J⟩:=G row (eH H);subst J;have p:q<(bN b aC).ax:=by have:=a.ax;have:=a.lt;omega
 have D:∀k:dv,bl b none 1 (.aQ q s (0+1)) (aA ((z:Int)+1)) (bN b aC) k=k .undef ((bN b aC).g1 b q (.ae (.box s [.aN 1 l,aA ((z+1:Nat):Int)]))):=λk=>by rw[uB,z1 (n:=1) (off:=0+1) (cs:=[.aN 1 l,aA z]) (new:=[aA ((z:Int)+1)]) ho rfl (by simp) (λo=>kC b _) p];rfl
 generalize e:(bN b aC).g1 b q (.ae (.box s [.aN 1 l,aA ((z+1:Nat):Int)]))=h' at D;have t:h'.am q= .box s [.aN 1 l,aA ((z+1:Nat):Int)]:=by rw[<-e];exact nv p
 have K:eI b aC q s (.aN 1 l) N h':=by refine⟨j,y,by rw[<-e,aO.lY];exact a.ax,⟨z+1,F,t⟩,λk g=>?_,λk g L=>?_,d.ad⟩;rw[<-e]at g;exact(aO.rl k g).elim (λh=>by cases h) id;rw[<-e,aO.mu p];simp[Go.Hf.dk,L];exact r3 aC g
 have f0:([.aN 1 l,aA ((z+1:Nat):Int)]:az)[0+0]? =some (.aN 1 l):=rfl;have f1:([.aN 1 l,aA ((z+1:Nat):Int)]:az)[0+1]? =some (aA ((z+1:Nat):Int)):=rfl;have M:((z+1:Nat):Int)-1=(z:Int):=by omega
 have O:∀w:ay,met b [4098] [.aN 1 l,aA z] w=w:=λw=>by rw[be,be,aP]
 have R:∀(ob:dE) (f:gI) (c:Int),bi ob (aA c) f=f (aA c) []:=λob f c=>ei _ _ _;rw[BJ,ep,OM,i3,aH,aS,x9 a,av ho,aL c8,OL,i3,aH,aS,x9 a,av ho,aL dB,B,b8,lR,bA,cV,cz,Jy,cf,ch,bA,bc,i3,aH,Wm,av ho,aL c8,b8,fV,i3,aH,D,i3,aH,aS,x9 a,av t,aL f0,i3,Wl,aH,aS,x9 a,av t,aL f1,b8,g5,M,dW,O,fH,aS,be,aP,cI,aL (by rfl),apo I,abz,Mj,bJ,ei];rw[aq];exact S1 K ⟨_,Int.emod_nonneg _ (by omega),Int.emod_lt_of_pos _ (by omega),rfl⟩;rw[BJ,ep,OM,i3,aH,aS,x9 a,av ho,aL c8,OL,i3,aH,aS,x9 a,av ho,aL dB,B,b8,lR,bM,gf,Jy,cA,cf,bw,Mj,b7,bJ,ei];rw[aq];exact S1 a ⟨0,by omega,by omega,rfl⟩
end
end
section
variable{f:Nat}{args:az}{R a:ao->Prop}{h:aO}{K:dv}
section
variable[Tok] {u:Fn}{b:Nat}
theorem uM:(uL:ao)=aA 6:=by rw[db];rfl
theorem kH{aC:cD}{q s N:Nat}{BX:ao}(c:eI b aC q s BX N h)(C:gG u f args BX N R)
 (H:∀r h',R r->eI b aC q s BX N h'->(∀d,h'.am (b+d)=h.am (b+d))->gY (K r h') b aC q s BX N a):gY (dC u b f (.aQ q s 0::args) [] h K) b aC q s BX N a:=by
 obtain⟨r,h',g,i,j,e⟩:=abr c C;rw[e];exact H r h' g i λd=>j _ (by have:=c.lt;omega)
theorem Kt{aC:cD}{q s N:Nat}{BX:ao}{xs:az}(c:eI b aC q s BX N h)(C:gG u f args BX N R)
 (H:∀r h',R r->eI b aC q s BX N h'->(∀d,h'.am (b+d)=h.am (b+d))->gY (K r h') b aC q s BX N a):gY (vV u b [4097] [4096,4098] xs f (.aQ q s 0::args) [] h K) b aC q s BX N a:=by
 obtain⟨r,h',g,i,j,e⟩:=apB (xs:=xs) c C;rw[e];exact H r h' g i λd=>j _ (by have:=c.lt;omega)
theorem mo{aC:cD}{q s N:Nat}{BX:ao}{r:ao}(c:eI b aC q s BX N h)(d:R r):gY (im b r [] h) b aC q s BX N R:=S1 c d
def wL(r:ao):Prop:=∃i,i<3/\r= .agg (gS i)
theorem ak8{BX:ao}{N:Nat}(g:∀n:Int,1<=n/\n<=100->gG u 21 [aA n] BX N (rE n))(j:∀i,i<3->bf u 12 [.s 1 (0x78+i)] (.agg (gS i)))(l:ly BX){aC:cD}{q s z:Nat}(o:q<b)(p:q%4096<2048)(t:z<=N)(w:b9 b aC q= .box s [BX,aA z]):gY (E5 u [.aQ q s 0] b aC) b aC q s BX N wL:=by
 have c:=eI.start o p t w l
 haveI:=c.aK
 rw[E5,jp,WM,cF];rw[fu];refine kH c.cB (g 3 (by omega)) λr h' x d y=>?_;obtain⟨k,k0,D,rfl⟩:=x
 haveI:=d.aK
 have E:=(y 2).trans ec;have A:∀i:Nat,i<3->k=(i:Int)->(∀f:ao->ay,p2 (.s 3 0x78797a) (some (aA k)) none f=f (.s (3-i) (0x78797a%256^(3-i))))/\(∀f:ao->ay,p2 (.s (3-i) (0x78797a%256^(3-i))) none (some br) f=f (.s 1 (0x78+i))):=by
  intro i hi e;have:i=0\/i=1\/i=2:=by omega
  rcases this with rfl|rfl|rfl;rw[e];exact⟨λf=>by rw[db];rfl,λf=>rfl⟩;rw[e];exact⟨λf=>by rw[db];rfl,λf=>rfl⟩;rw[e];exact⟨λf=>by rw[db];rfl,λf=>rfl⟩
 obtain⟨B,C⟩:=A k.toNat (by omega) (by omega);have ev:=j k.toNat (by omega);have F:(gS k.toNat).length=11:=rfl;have pv:cg (gS k.toNat)=true:=rfl;rw[B,C,bE,qV,aq,a0,cM,adt,eU,aU,bJ,a6];rw[aq];exact mo d.dp ⟨_,by omega,rfl⟩
section
variable{BX:ao}{N:Nat}{aC:cD}{q s:Nat}
end
end
end
section
variable{o d:az}{v:ao}{l:bg}
section
variable[Tok] {u:Fn}{b:Nat}
def e5:az:=iD 4 0x6c697370 3 0x6e696c
def lk:bg->az
 |[]=>e5
 |a::l=>il a (lk l)
theorem C2:∀l:bg,(lk l).length=7/\cg (lk l)=true
 |[]=>by rw[lk,e5,iD,<-e4];exact⟨rfl,rfl⟩
 |a::l=>by rw[lk,il,<-nU];exact⟨rfl,rfl⟩
theorem apH{ob:dE}{q s e a n:Nat}{pre:az}{es:bg}(c:cg pre=true)(ho:ob q= .aV s e a es false)(i:n=es.length)(f:gI):
 bi ob (.agg (pre++[.aV q s 0 n])) f=f (.agg (pre++[.aN a es])) []:=by
 subst i;have j:∀g,bi ob (.agg (pre++[.aV q s 0 es.length])) g=bB (cg (pre++[.aV q s 0 es.length])) (g (.agg (pre++[.aV q s 0 es.length])) []) (jV ob (pre++[.aV q s 0 es.length]) λk us=>g (.agg k) us):=λ_=>rfl;have p:∀g:az->fk->ay,jV ob [.aV q s 0 es.length] g=lq (ob q) λh e sz ea bL=>bB (Nat.beq s h) (bB (Nat.ble (Nat.add 0 es.length) (eJ ea)) (g [.aN sz (mU ea 0 es.length)] (@Bool.rec (λ_=>fk) [] ((q,.aV h e sz ea false)::[]) bL)) .aF) .aF:=λ_=>rfl;rw[j,adc c,Qg,CD ob _ _ c,p,ho,uO,fI,da,gV,eT,dJ (by rw[h5];omega),da,Ah]
theorem YD(ho:o.length=7)(g:cg o=true)(hd:d.length=7)(h:cg d=true):∃s d',B7 u [.agg o,.agg d] 0 .nil= .ok (.agg (il o d)) 0 s d':=by
 have a:∀f:az->ay,eu 0 1 ku dD f=f [ku,.s 0 0,.s 0 0,.s 0 0,.s 0 0,.s 0 0,.ba]:=λf=>rfl;have c:∀(q s o l:Nat) (f:az->ay),eu 6 1 (.aV q s o l) [ku,.s 0 0,.s 0 0,.s 0 0,.s 0 0,.s 0 0,.ba] f=f ([ku,.s 0 0,.s 0 0,.s 0 0,.s 0 0,.s 0 0]++[.aV q s o l]):=λq s o l f=>rfl;have e:il o d=[ku,.s 0 0,.s 0 0,.s 0 0,.s 0 0,.s 0 0]++[.aN 7 [o,d]]:=by rw[il,nU];rfl
 rw[e];rw[B7,ep,XO,b3,b3,XN,cF,av,aU,av,aU,vT,vU,aq,aq,iR,a,c,iZ,cM,adE,eU,aU,bJ,apH (by rfl) (fS hX) (by rfl),aq];exact b6
theorem aqo(z:v= .aN 7 l\/l=[])(N:l.length<1000)(A:∀a∈l,a.length=7/\cg a=true)(B:∀a∈l,∀i,bf u 77 [.agg a,.agg (lk (l.drop i))] (.agg (il a (lk (l.drop i))))){t s3:Nat}{w:az}(O:w.length=7):∀(m M:Nat) (h:aO),m<M->m<=l.length->cp h 0->dS h->h.am (0+2)= .box t w->h.am (0+3)= .box s3 (lk (l.drop m))->
 ∃s d,gd 0 2 3 4 M (B6 u 0 (λc j g=>bh g.am true 7 j λk=>bl 0 none 7 c k g λ_ n=>Hy 0 c n)) v (.aQ (0+2) t 0) (.aQ (0+3) s3 0) (aA ((m:Int)-1)) h= .ok (.agg (lk l)) 0 s d:=by
 intro m;induction m with
 |zero=>intro M h C p ub b5 q r;obtain⟨M,rfl⟩:=eC M;obtain⟨D,E⟩:=C2 l;rw[sA]at r;rw[jt];generalize gd 0 2 3 4 M (B6 u 0 (λc j g=>bh g.am true 7 j λk=>bl 0 none 7 c k g λ_ n=>Hy 0 c n))=F;rw[show(((0:Nat):Int)-1)= -1 from rfl];rw[B6,b7,lR,bA,bc,av,aU,cM,Hy,eU (gn q),aU,bJ,a6,aq];exact b6
 |succ m G=>
  intro M h C p ub b5 q r;obtain⟨M,rfl⟩:=eC M;obtain rfl:v= .aN 7 l:=z.elim id λe=>by rw[e]at p;simp at p
  obtain⟨D,E⟩:=C2 (l.drop (m+1));obtain⟨P,Q⟩:=C2 (l.drop m);have H:l[m]? =some (l[m]'(by omega)):=fo _;have I:lk (l.drop m)=il (l[m]'(by omega)) (lk (l.drop (m+1))):=by rw[sy (by omega),lk]
  have x:=B _ (Ni (show m<l.length by omega)) (m+1);obtain⟨J,K⟩:=A _ (Ni (show m<l.length by omega));rw[<-I]at x;generalize (l[m]'(by omega))=a at H x J K;have y:=λh'=>G M h' (by omega) (by omega);have L:(((m+1:Nat):Int)-1)=(m:Int):=by omega
  rw[L,jt];generalize gd 0 2 3 4 M (B6 u 0 (λc j g=>bh g.am true 7 j λk=>bl 0 none 7 c k g λ_ n=>Hy 0 c n))=F at y;rw[B6,b7,lR,bM,bw,XK,dW,be,be,aP,b8,fH,XJ,aS,be,aP,cI,aU,aS,bO,aP,av,aU,be,be,aP,a6,a6,aq,aq,a0,bO,aP,eS,g5];exact y _ inferInstance inferInstance (fS q) (gn r)
theorem akh(c:cE 7 v l)(e:l.length<1000)(g:∀a∈l,a.length=7/\cg a=true)(k:bf u 41 [] (.agg e5))(j:∀a∈l,∀i,bf u 77 [.agg a,.agg (lk (l.drop i))] (.agg (il a (lk (l.drop i))))):∃s d,FK u [v] 0 .nil= .ok (.agg (lk l)) 0 s d:=by have n:e5.length=7:=rfl;rw[FK,jp,XM,cF,XL,a0,cF,cM,c.len,b8,g5];refine aqo ?_ e g j rfl _ _ _ (by omega) (dn _) inferInstance inferInstance (fS (fZ (ec (h:=bN 0 .nil) (d:=2) (t:=42) (cs:=dD)))) ?_;exact c.elim (λh=> .inr h.2) .inl;rw[List.drop_length];exact gn (ec (h:=(bN 0 .nil).cB 0 2 42 _))
def mz(o:az):Prop:=o∈jZ\/∃x∈yi,o=fw x.1 x.2
theorem mz.am(h:mz o):m2 o:=by rcases h with h|⟨x,a,rfl⟩;exact .nS _ h;exact .Db x a
theorem mz.fP(h:mz o):kh 0 1 o:=by rcases h with h|⟨x,a,rfl⟩;exact .leaf (qt _ h);exact .leaf (G7 a)
theorem mz.p{o:az}(h:mz o):o.length=7/\cg o=true:=h.fP.p
theorem abV:∀{l:bg},(∀a∈l,mz a)->∃c,kh l.length c (lk l)
 |[],_=>⟨1,.leaf (qt _ (by simp[jZ,lk,e5]))⟩
 |a::l,h=>by obtain⟨c,e⟩:=abV (l:=l) λx g=>h x (ii _ g);exact⟨_,.cons ((h a fQ).fP.le (pg _)) e⟩
theorem arh(e:l.length<=3)(h:∀a∈l,mz a):m2 (lk l):=by
 match l,e,h with
 |[],_,_=>exact .nS _ (by simp[jZ,lk,e5])
 |a::l,e,h=>
  obtain⟨c,g⟩:=abV (l:=l) λx i=>h x (ii _ i);have:l.length<=2:=by simp at e;omega
  exact .vF 2 _ _ _ _ (dn _) ((h a fQ).fP.le (pg _)) (g.le this)
theorem alS{a:az}(c:mz a)(hd:mz d):m2 (il a d):= .vF 0 _ _ _ _ (by omega) c.fP hd.fP
end
end
section
variable{h:aO}{s4:Nat}{Z:az}{R:ao->Prop}
section
variable[Tok] {u:Fn}{b:Nat}
theorem C7:(yd:ao)=aA 7:=by rw[db];rfl
theorem acn:(n14:ao)=aA 14:=by rw[db];rfl
def yU(r:ao):Prop:=∃o,r= .agg o/\mz o
def Ef(r:ao):Prop:=∃o,r= .agg o/\m2 o
structure A6 (u:Fn):Prop where
 KX:bf u 41 [] (.agg e5)
 aof:bf u 62 [] (.agg (iD 4 0x6c697370 1 0x74))
 pq:∀z:Int,z.natAbs<=4->bf u 72 [aA z] (.agg (fw z 1))
 aob:bf u 73 [.s 1 0x31,.s 1 0x32] (.agg (fw 1 2))
 aoc:bf u 73 [.s 2 0x2d35,.s 1 0x33] (.agg (fw (-5) 3))
 jA:∀a c,bf u 15 [.s a c] (.agg [kD,.s a c])
 aod:∀a1 c1 a2 c2,bf u 74 [.agg [.s a1 c1,.s a2 c2]] (.agg (iD a1 c1 a2 c2))
 aoe:∀a c,bf u 75 [.s a c] (.agg (pM a c))
 xL:∀v l,cE 7 v l->l.length<=3->(∀a∈l,a.length=7/\cg a=true)->bf u 76 [v] (.agg (lk l))
 ut:∀a d,(a.length=7/\cg a=true)->(d.length=7/\cg d=true)->bf u 77 [.agg a,.agg d] (.agg (il a d))
section
variable{BX:ao}{N:Nat}{aC:cD}{q s:Nat}
theorem t63(k:Nat)(G:k<14:=by omega)(c d a:ao)(h:aO):JB u b c d a (aA k) h=
 if k=0 then cm u b none 41 [] [] h λe g=>bl b none 7 a e g λ_ j=>mj b a j
 else if k=1 then cm u b none 62 [] [] h λl n=>bl b none 7 a l n λ_ o=>mj b a o
 else if k<=3 then JC u b c a h
 else if k=4 then cm u b none 73 [(.s 1 0x31),(.s 1 0x32)] [] h λp r=>bl b none 7 a p r λ_ t=>mj b a t
 else if k=5 then cm u b none 73 [(.s 2 0x2d35),(.s 1 0x33)] [] h λw x=>bl b none 7 a w x λ_ y=>mj b a y
 else if k=6 then OU u b c a h
 else if k=7 then OV u b c a h
 else if k=8 then cm u b none 72 [bt] [] h λz A=>bl b none 7 a z A λ_ B=>mj b a B
 else if k=9 then cm u b none 72 [br] [] h λC D=>bl b none 7 a C D λ_ E=>mj b a E
 else if k<=12 then JD u b c d a h
 else OS u b c d a h:=by
 have F:∀k:Nat,aA (k:Int)= .ag .i64 (18446744073709551616+k):=λk=>by rw[db];congr 1;omega
 rw[F];have:k=0\/k=1\/k=2\/k=3\/k=4\/k=5\/k=6\/k=7\/k=8\/k=9\/k=10\/k=11\/k=12\/k=13:=by omega
 rcases this with rfl|rfl|rfl|rfl|rfl|rfl|rfl|rfl|rfl|rfl|rfl|rfl|rfl|rfl<;>rfl
theorem Z9{o:az}(a:eI b aC q s BX N h)(d:h.am (b+4)= .box s4 Z)(e:Z.length=7)(ho:o.length=7/\cg o=true)(c:R (.agg o)):gY (bl b none 7 (.aQ (b+4) s4 0) (.agg o) h λ_ h'=>mj b (.aQ (b+4) s4 0) h') b aC q s BX N R:=by
 haveI:=a.aK
 obtain⟨g,i⟩:=ho;rw[cM,mj,eU,aU,bJ,a6];rw[aq];exact mo a.dp c
theorem RM(O:A6 u)(t:∀n:Int,1<=n/\n<=100->gG u 21 [aA n] BX N (rE n))(d:eI b aC q s BX N h)(e:h.am (b+4)= .box s4 Z)(y:Z.length=7)(A:∀o,mz o->R (.agg o))(B:ao){k:Nat}(E:k<10):gY (JB u b (.aQ q s 0) B (.aQ (b+4) s4 0) (aA k) h) b aC q s BX N R:=by
 have F:∀{h':aO}{o:az},eI b aC q s BX N h'->h'.am (b+4)= .box s4 Z->mz o->gY (bl b none 7 (.aQ (b+4) s4 0) (.agg o) h' λ_ h'=>mj b (.aQ (b+4) s4 0) h') b aC q s BX N R:=λg o' ho=>Z9 g o' y ho.p (A _ ho);have p:∀{o:az},o∈jZ->mz o:=λh=> .inl h;have num:∀z:Int,(z,1)∈yi->mz (fw z 1):=λz C=> .inr ⟨_,C,rfl⟩;rw[t63 k];split;rw[a0 O.KX];exact F d e (p (by simp[jZ,e5]));split;rw[a0 O.aof];exact F d e (p (by simp[jZ]));split;rw[JC,C7];refine kH d (t 7 (by omega)) λr h' j g l=>?_;obtain⟨z,x,dD,rfl⟩:=j;rw[fu,g5,bE,ei,aq,a0 (O.pq (z-3) (by omega))];have:z=0\/z=1\/z=2\/z=3\/z=4\/z=5\/z=6:=by omega
 exact F g ((l 4).trans e) (num _ (by rcases this with rfl|rfl|rfl|rfl|rfl|rfl|rfl<;>decide));split;rw[a0 O.aob];exact F d e (.inr ⟨(1,2),by decide,rfl⟩);split;rw[a0 O.aoc];exact F d e (.inr ⟨(-5,3),by decide,rfl⟩);split;rw[OU,fu];refine kH d (t 3 (by omega)) λr h' j g l=>?_;obtain⟨z,x,dD,rfl⟩:=j;have:z=0\/z=1\/z=2:=by omega
 obtain⟨i,hi,w⟩:∃i:Nat,iD 4 0x75736572 1 i∈jZ/\∀f:ao->ay,(p2 (.s 3 0x616263) (some (aA z)) none λD=>p2 D none (some br) f)=f (.s 1 i):=by rcases this with rfl|rfl|rfl;exact⟨0x61,by simp[jZ],λf=>by rw[db];rfl⟩;exact⟨0x62,by simp[jZ],λf=>by rw[db];rfl⟩;exact⟨0x63,by simp[jZ],λf=>by rw[db];rfl⟩
 rw[w,bE,qV,aq,a0 (O.jA _ _),bE,a6,aq,kD,a0 (O.aod _ _ _ _)];exact F g ((l 4).trans e) (p hi);split;rw[OV,fu];refine kH d (t 3 (by omega)) λr h' j g l=>?_;obtain⟨z,x,dD,rfl⟩:=j;have:z=0\/z=1\/z=2:=by omega
 obtain⟨a,c,hi,w⟩:∃a c:Nat,pM a c∈jZ/\∀f:ao->ay,p2 (.s 2 0x7071) none (some (aA z)) f=f (.s a c):=by rcases this with rfl|rfl|rfl;exact⟨0,0,by simp[jZ],λf=>by rw[db];rfl⟩;exact⟨1,0x70,by simp[jZ],λf=>by rw[db];rfl⟩;exact⟨2,0x7071,by simp[jZ],λf=>by rw[db];rfl⟩
 rw[w,bE,qV,aq,a0 (O.aoe _ _)];exact F g ((l 4).trans e) (p hi);split;rw[b7,a0 (O.pq 0 (by omega))];exact F d e (num _ (by decide));rw[GG,b8,a0 (O.pq 1 (by omega))];exact F d e (num _ (by decide))
theorem YI(O:A6 u)(a:∀n:Int,1<=n/\n<=100->gG u 21 [aA n] BX N (rE n))(g:ly BX){z:Nat}(i:q<b)(j:q%4096<2048)(l:z<=N)(p:b9 b aC q= .box s [BX,aA z]):gY (sS u [.aQ q s 0,aA 0] b aC) b aC q s BX N yU:=by
 have c:=eI.start i j l p g
 haveI:=c.aK
 rw[sS,ep,OT,cF];rw[acn];refine kH c.cB (a 14 (by omega)) λr h' t d w=>?_;obtain⟨z,x,dD,rfl⟩:=t;have e:=(w 4).trans ec;by_cases y:9<z;rw[b8,cz,bM,dR,LN,i1,Fi,cA,bM,bw,acr,g5];have:=RM O a d e rfl (R:=yU) (λo ho=>⟨o,rfl,ho⟩) (aA 0) (k:=(z-8).toNat) (by omega);rw[show(((z-8).toNat:Nat):Int)=z-8 by omega]at this;exact this;rw[b8,cz,bM,dR,LN,i1,Fi,cA,bA,bc];have:=RM O a d e rfl (R:=yU) (λo ho=>⟨o,rfl,ho⟩) (aA 0) (k:=z.toNat) (by omega);rw[show((z.toNat:Nat):Int)=z by omega]at this;exact this
end
end
end
section
variable{n:Nat}{l:List Nat}
def dK:List Nat->Nat
 |[]=>0
 |d::r=>d+10*dK r
def Ct:Nat->Nat->List Nat
 |0,_=>[]
 |f+1,n=>if n=0 then[] else n%10::Ct f (n/10)
def bF(n:Nat):List Nat:=Ct n n
theorem Zj:∀{f g n:Nat},n<=f->n<=g->Ct f n=Ct g n
 |0,0,_,_,_=>rfl
 |0,g+1,n,h,_=>by have:n=0:=by omega
                  subst this;rfl
 |f+1,0,n,_,h=>by have:n=0:=by omega
                  subst this;rfl
 |f+1,g+1,n,a,b=>by unfold Ct;split;rfl;rw[Zj (f:=f) (g:=g) (by omega) (by omega)]
theorem Ks:bF 0=[]:=rfl
theorem vJ(h:n≠0):bF n=n%10::bF (n/10):=by
 unfold bF;cases n with
 |zero=>exact absurd rfl h
 |succ n=>rw[Ct,dU h,Zj (by omega) (dn _)]
theorem jy:∀(n:Nat),∀d∈bF n,d<10:=by
 intro n;induction n using Nat.strongRecOn with
 |_ n a=>intro d hd;by_cases h:n=0;subst h;cases hd;rw[vJ h]at hd;rcases e9.1 hd with rfl|hd;omega;exact a _ (by omega) d hd
theorem nm:∀n:Nat,dK (bF n)=n:=by
 intro n;induction n using Nat.strongRecOn with
 |_ n a=>by_cases h:n=0;subst h;rfl;rw[vJ h];show n%10+10*dK (bF (n/10))=n;rw[a _ (by omega)];omega
def lr:List Nat->List Nat
 |[]=>[]
 |d::r=>if d=0/\lr r=[] then[] else d::lr r
theorem AF:∀{l:List Nat},(∀d∈l,d<10)->lr l=bF (dK l)
 |[],_=>rfl
 |d::r,h=>by have c:=AF (l:=r) λx e=>h x (ii _ e);have hd:=h d fQ;unfold lr;rw[c];have g:dK (d::r)=d+10*dK r:=rfl;rw[g];by_cases a:dK r=0;rw[a,Ks];by_cases b:d=0;rw[dr ⟨b,rfl⟩,b];rfl;rw[dU (λx=>b x.1),vJ (by omega),show(d+10*0) %10=d by omega,show(d+10*0)/10=0 by omega,Ks];rw[vJ a,dU (λx=>by cases x.2),<-vJ a,vJ (n:=d+10*dK r) (by omega),show(d+10*dK r) %10=d by omega,show(d+10*dK r)/10=dK r by omega]
theorem vI:∀(k n:Nat),n<10^k->(bF n).length<=k
 |0,n,h=>by have:n=0:=by omega
            subst this;exact dn _
 |k+1,n,h=>by by_cases a:n=0;subst a;exact pg _;rw[vJ a];have:=vI k (n/10) (by rw[m1]at h;omega);simp;omega
theorem LU:∀{l:List Nat},(∀d∈l,d<10)->dK l<10^l.length
 |[],_=>by decide
 |d::r,h=>by have:=LU (l:=r) λx a=>h x (ii _ a);have hd:=h d fQ;simp only[dK,qw,m1];omega
theorem xB{k:Nat}(h:(bF n).length<=k):n<10^k:=by have:=LU (jy n);rw[nm]at this;exact pi this (Nat.pow_le_pow_right (by decide) h)
theorem St:∀(l r:List Nat),dK (l++r)=dK l+10^l.length*dK r
 |[],r=>by simp[dK]
 |d::l,r=>by simp only[wx,dK,St l r,qw,m1];rw[Nat.mul_add,<-Nat.mul_assoc,su (10^l.length) 10,rp]
theorem Ts:∀(l:List Nat) (d:Nat),lr (l++[d])=if d=0 then lr l else l++[d]
 |[],d=>by unfold lr;simp[lr]
 |c::l,d=>by have a:=Ts l d;show(if c=0/\lr (l++[d])=[] then[] else c::lr (l++[d]))=_;rw[a];by_cases h:d=0;rw[dr h,dr h];rfl;rw[dU h,dU h,dU (by simp)];rfl
theorem Sv(h:n<l.length):dK (l.take (n+1))=dK (l.take n)+10^n*l[n]:=by rw[List.take_succ_eq_append_getElem h,St,AY,Nat.min_eq_left (by omega)];simp[dK]
theorem Su(h:n<l.length):dK (l.drop n)=l[n]+10*dK (l.drop (n+1)):=by rw[sy h];rfl
theorem acF:∀{l:List Nat}{n:Nat} (x:Nat) (h:n<l.length),dK (l.set n x)+10^n*l[n]=dK l+10^n*x
 |d::l,0,x,h=>by simp[dK];omega
 |d::l,n+1,x,h=>by have:=acF x (l:=l) (n:=n) (by simpa using h);simp only[List.set_cons_succ,dK,List.getElem_cons_succ,m1];rw[Nat.mul_right_comm,Nat.mul_right_comm _ 10 x];omega
theorem acH:∀n,dK (List.replicate n 0)=0
 |0=>rfl
 |n+1=>by rw[List.replicate_succ];simp[dK,acH n]
end
section
variable{l:List UInt8}{a c d e sz bytes:Nat}{h:aO}{x:ao}{es:bg}
theorem Y8{m:Nat}(h:m≠0):Lib.decDigits m=(bF m).reverse.map λd=>UInt8.ofNat (48+d):=by
 induction m using Nat.strongRecOn with
 |_ m i=>rw[Lib.decDigits,vJ h];by_cases g:m<10;rw[dif_pos g,show m/10=0 by omega,show m%10=m by omega];rfl;rw[dif_neg g,i (m/10) (by omega) (by omega)];simp
theorem K5:Lib.itoa 0=[48]:=by unfold Lib.itoa;rw[if_neg (by omega),Lib.decDigits,dif_pos (by decide)];rfl
theorem GL{n:Int}(h:n≠0):Lib.itoa n=(if n<0 then[45] else[])++(bF n.natAbs).reverse.map λd=>UInt8.ofNat (48+d):=by unfold Lib.itoa;split;rw[Y8 (by omega)];rfl;rw[show n.toNat=n.natAbs by omega,Y8 (by omega)];rfl
theorem acD[Tok]{l':List UInt8}(g:l.length=l'.length)(i:nk l=nk l'):l=l':=by rw[<-zB l,<-zB l',g,i]
section
variable[Tok] {u:Fn}{b:Nat}
@[irreducible] def jO (c:Nat):ao:= .ag .u8 (18446744073709551616+c)
theorem nY(c:Nat):jO c= .ag .u8 (18446744073709551616+c):=by unfold jO;rfl
theorem MV:(MU:ao)=jO 48:=by rw[nY];rfl
theorem HY:(MT:ao)=jO 45:=by rw[nY];rfl
theorem axe:(aeJ:ao)=jO 57:=by rw[nY];rfl
theorem arK:(acq:ao)=aA 48:=by rw[db];rfl
theorem KB:pn .u8 .u8=true:=rfl
theorem apP(k:ao->ay):fi (jO a) (jO c) k=k (.U (decide (a<c))):=by unfold fi uv;rw[nY,nY,Af,q7,KB,da];dsimp only;rw[eT];congr 2;exact sw.2 (by omega)
theorem apE(k:ao->ay):mQ (jO a) (jO c) k=k (.U (decide (c<a))):=by unfold mQ uv;rw[nY,nY,Af,q7,KB,da];dsimp only;rw[eT];congr 2;exact sw.2 (by omega)
theorem CT(k:ao->ay):cj (jO a) (jO c) k=k (.U (decide (a=c))):=by unfold cj;rw[nY,nY,Af,q7,KB,da,Qd];congr 2;exact sw.2 (by omega)
theorem aa6(h:c<256):zR .u8 (18446744073709551616+c)=true:=by rw[xV];simp only[mP,C0,GD,cC,Nat.ble_eq];constructor<;>omega
theorem ap6(g:c<=a:=by omega)(i:a<256:=by omega)(k:ao->ay):gU (jO a) (jO c) k=k (jO (a-c)):=by
 unfold gU;rw[nY,nY,q7,q7,KB,da,fN,eT];have e:Nat.sub (Nat.add (18446744073709551616+a) 18446744073709551616) (18446744073709551616+c)=18446744073709551616+(a-c):=by rw[sv,h5];omega
 rw[e,aa6 (by omega),da,nY,dJ (by rw[h5];omega),da]
theorem apq(n:c<256:=by omega)(k:ao->ay):dj (qp .i64 (jO c)) k=k (aA c):=by
 rw[nY];have e:qp .i64 (.ag .u8 (18446744073709551616+c))=bif mP .i64 (18446744073709551616+c) then some (.ag .i64 (18446744073709551616+c)) else mL (.int .i64 (IntKind.i64.wrap (intOf (18446744073709551616+c)))):=rfl;have g:mP .i64 (18446744073709551616+c)=true:=by
  rw[<-xV];have:=K2 (c:=(c:Int)) (by omega) (by omega);have j:((c:Int)+18446744073709551616).toNat=18446744073709551616+c:=by omega
  rw[j]at this;exact this
 rw[e,g,e6,nR,db];congr 2;omega
theorem apn{c:Int}(n:0<=c:=by omega)(o:c<256:=by omega)(k:ao->ay):dj (qp .u8 (aA c)) k=k (jO c.toNat):=by
 rw[db];have g:(c+18446744073709551616).toNat=18446744073709551616+c.toNat:=by omega
 rw[g];have e:qp .u8 (.ag .i64 (18446744073709551616+c.toNat))=bif mP .u8 (18446744073709551616+c.toNat) then some (.ag .u8 (18446744073709551616+c.toNat)) else mL (.int .u8 (IntKind.u8.wrap (intOf (18446744073709551616+c.toNat)))):=rfl;have j:mP .u8 (18446744073709551616+c.toNat)=true:=by rw[<-xV];exact aa6 (by omega)
 rw[e,j,e6,nR,nY]
theorem ap0{a:Int}(g:0<=a:=by omega)(k:ao->ay):dj (gR .rem (aA a) (aA 10)) k=k (aA (a%10)):=by
 have i:intOf (a+18446744073709551616).toNat=a:=by unfold intOf;omega
 have j:intOf ((10:Int)+18446744073709551616).toNat=10:=by unfold intOf;omega
 have e:gR .rem (aA a) (aA 10)=some (aA (a%10)):=by rw[db,db,db];simp only[gR,uW,e6,tb,wi,qo,i,j,kA,gF,dU (show(10:Int)≠0 by omega),tH,Int.tmod_eq_emod_of_nonneg g,mL];rw[GG]
 rw[e,nR]
theorem apZ{a:Int}(g:0<=a:=by omega)(p:a<1000000:=by omega)(k:ao->ay):dj (gR .quo (aA a) (aA 10)) k=k (aA (a/10)):=by
 have i:intOf (a+18446744073709551616).toNat=a:=by unfold intOf;omega
 have j:intOf ((10:Int)+18446744073709551616).toNat=10:=by unfold intOf;omega
 have n:IntKind.i64.wrap (a/10)=a/10:=by have o:IntKind.i64.wrap (a/10)=if(true&&decide ((a/10) %18446744073709551616≥9223372036854775808))=true then(a/10) %18446744073709551616-18446744073709551616 else(a/10) %18446744073709551616:=rfl;rw[o,dU (by rw[yI,nB];omega)];omega
 have e:gR .quo (aA a) (aA 10)=some (aA (a/10)):=by rw[db,db,db];simp only[gR,uW,e6,tb,wi,qo,i,j,kA,gF,dU (show(10:Int)≠0 by omega),tH,Int.tdiv_eq_ediv_of_nonneg g,mL,n];rw[GG]
 rw[e,nR]
theorem yb:(tj:ao)=aA 10:=by rw[db];rfl
def wj(l:List UInt8):ao:= .s l.length (nk l)
theorem RI{i:Nat}{c:UInt8}(h:l[i]? =some c:=by assumption)(k:ao->ay):ne (wj l) (aA i) k=k (jO c.toNat):=by obtain⟨hi,_⟩:=g8.1 h;have g:=sW l.length (nk l) i hi;rw[zB,h]at g;have j:=l2 g;rw[db,nY,j];have e0:∀f:Nat->Nat->ay,lU (wj l) f=f l.length (nk l):=λ_=>rfl;unfold ne;rw[e0,q7];rw[Tn,eT,bM,da,m9,dJ hi,da,fN,Tg];congr 2
theorem amv(l l':List UInt8):eN l.length (nk l) l'.length (nk l')=decide (l=l'):=by rw[KA,n0,nB];unfold qP;rw[cC,k9,k9];constructor;rintro⟨g,i⟩;rw[qx (Dd l),g,qx (Dd l')]at i;exact acD g i;rintro rfl;exact⟨rfl,rfl⟩
theorem abo(l l':List UInt8)(k:ao->ay):cj (wj l) (wj l') k=k (.U (decide (l=l'))):=by rw[<-amv];rfl
structure NB (x:ao):Prop where
 fh:∀(ob:dE) (f:gI),bi ob x f=f x []
 cells:∀f:az->ay,oh x f=f [x]
theorem Dv{c:Int}:NB (aA c):=⟨λob f=>ei ob c f,λf=>by rw[db];rfl⟩
theorem ad0:NB (jO c):=⟨λob f=>by rw[nY];rfl,λf=>by rw[nY];rfl⟩
def gm(b d e sz:Nat)(h:aO)(x:ao)(es:bg):Prop:=(x= .ba/\es=[])\/∃s,x= .aV (b+d) s 0 es.length/\h.am (b+d)= .aV s e sz es false
theorem gm.am{h':aO}(H:gm b d e sz h x es)(ho:h'.am (b+d)=h.am (b+d)):gm b d e sz h' x es:=by rcases H with H|⟨s,g,i⟩;exact .inl H;exact .inr ⟨s,g,ho.trans i⟩
theorem gm.g3{d':Nat}[cp h b]{y:ao}{r:az}(H:gm b d e sz h x es)(g:∀f:bg->ay,i0 h.am sz y f=f [r])(j:es.length<1000)(n:bytes<1000)(hd:d<4096:=by decide)(i:es=[]->d'=d:=by intro _;rfl):
 ∃s,∀k:dv,fW b d' none e sz bytes x y false h k=k (.aV (b+d) s 0 (es++[r]).length) (h.je b d s e sz (es++[r]) false):=by
 have p:(es.length+1)*bytes<=1000*1000:=AZ (by omega) (by omega);rcases H with⟨rfl,rfl⟩|⟨s,rfl,ho⟩;rw[i rfl];exact⟨_,λk=>zW g (by simp) (λo=>kC b _) (by simp;omega) (by simp) k hd⟩;refine⟨Nat.add s 1,λk=>?_⟩;rw[K9 (d:=d) ho g rfl (λo=>kC b _) (by simp;omega) (by simp;omega) k hd,u7]
theorem gm.fh(H:gm b d e sz h x es):∃v,cE sz v es/\∀f:ao->fk->ay,bi h.am x f=f v []:=by rcases H with⟨rfl,rfl⟩|⟨s,rfl,ho⟩;exact⟨.ba,.inl ⟨rfl,rfl⟩,λf=>uz _ f⟩;exact⟨_,.inr rfl,λf=>jY ho rfl f⟩
theorem gm.new{s:Nat}[cp h b](hd:d<4096:=by decide):gm b d e sz (h.je b d s e sz es false) (.aV (b+d) s 0 es.length) es:= .inr ⟨s,rfl,kk hd⟩
theorem GS{d1 d2 d3:Nat}{ca:ao}{z:az}[cp h b][dS h](j:NB x)(O:gm b d2 e 1 h ca es)(t:es.length<1000)(w:bytes<1000:=by decide)(A:d1≠d2:=by decide)(g:d1<4096:=by decide)(i:d2<4096:=by decide)(B:es=[]->d3=d2:=by intro _;rfl):
 ∃q h',cp h' b/\dS h'/\gm b d2 e 1 h' q (es++[[x]])/\(∀d,d1≠d->d2≠d->d<4096->h'.am (b+d)=h.am (b+d))/\
  ∀k:dv,(eo h.am 1 0 x (eF 1 z) λm n=>fB b d1 none e 1 1 false m (aZ n []) h λo p=>fW b d3 none e 1 bytes ca o false p k)=k q h':=by
 have C:gm b d2 e 1 (h.fc b d1 e 1 [[x]] false) ca es:=O.am (fJ rfl A g);obtain⟨s,D⟩:=C.g3 (bytes:=bytes) (y:= .aV (b+d1) (ie h b d1) 0 1) (r:=[x]) (λf=>pt (hX g) rfl f) t w i B;refine⟨_,(h.fc b d1 e 1 [[x]] false).je b d2 s e 1 (es++[[x]]) false,inferInstance,inferInstance,gm.new i,λd br dM hd=>ic (fJ rfl br g) dM i,λk=>?_⟩;rw[RF (j.fh _) j.cells rfl (by rw[Dt];simp),aq,show((eF 1 z).set 0 [x]=[[x]]) from by rw[Dt];rfl,iR _ g,D]
end
end
section
variable{z:Nat}
section
variable[Tok] {u:Fn}{b:Nat}
section
variable{BX:ao}{N:Nat}{aC:cD}{q s:Nat}
structure It (P:az->Prop) (R:az->Prop):Prop where
 p:∀o,P o->o.length=7/\cg o=true
 nS:∀o,mz o->R o
 z4:∀l:bg,l.length<=3->(∀a∈l,P a)->R (lk l)
 vF:∀a d,P a->P d->R (il a d)
def wC(P:az->Prop)(r:ao):Prop:=∃o,r= .agg o/\P o
variable{P R:az->Prop}{dz:Nat}
theorem aqC(O:A6 u)(D:It P R)(L:dz<=9)(w:gG u 24 [aA dz] BX N (wC P)){s4:Nat}{l:az}(A:l.length=7){cc:Nat}(Q:cc<=3):∀(m i M:Nat) (h:aO) (x:ao) (es:bg),m+i=cc->m<M->eI b aC q s BX N h->h.am (b+4)= .box s4 l->gm b 2125 42 7 h x es->es.length=i->(∀a∈es,P a)->
 gY (k1 0 1 4 6 7 8 M (BN u b (Fj u b)) (.aQ q s 0) (aA (dz+1:Nat)) (.aQ (b+4) s4 0) x (aA cc) (aA i) h) b aC q s BX N (wC R):=by
 intro m;induction m with
 |zero=>intro i M h x es B C c e g n d;obtain⟨M,rfl⟩:=eC M;obtain⟨v,E,F⟩:=g.fh;have S:=O.xL v es E (by omega) λa j=>D.p a (d a j);rw[ti];generalize k1 0 1 4 6 7 8 M (BN u b (Fj u b))=j6;rw[BN,cz,bA,bc,Fj,bE,F,aq,a0];exact Z9 c e A (C2 es) ⟨_,rfl,D.z4 _ (by omega) d⟩
 |succ m G=>
  intro i M h x es B C c e g n d;obtain⟨M,rfl⟩:=eC M
  haveI:=c.aK
  have H:((i+1:Nat):Int)=(i:Int)+1:=by omega
  have k:=λh' x' ea=>G (i+1) M h' x' ea (by omega) (by omega);rw[H]at k;rw[ti];generalize k1 0 1 4 6 7 8 M (BN u b (Fj u b))=j6 at k;rw[BN,cz,bM,bw,WQ,b8,g5,ei,show((dz+1:Nat):Int)-1=dz by omega];refine kH c w λr h' I p t=>?_;obtain⟨o,rfl,ho⟩:=I
  haveI:=p.aK
  obtain⟨T,V⟩:=D.p o ho;have J:=(g.am (t 2125)).am (h':=h'.fc b 2124 42 7 [o] false) (fJ rfl);obtain⟨W,K⟩:=J.g3 (bytes:=112) (y:= .aV (b+2124) (ie h' b 2124) 0 1) (r:=o) (λf=>pt hX (by rfl) f) (by omega) (by omega);rw[jB,aq,iR,K,fV];exact k _ _ _ (p.fc.je) (ic (fJ ((t 4).trans e))) gm.new (by simp[n]) λa j=>(fq.1 j).elim (d a) λh=>by simp at h;rw[h];exact ho
theorem YH(O:A6 u)(D:It P R)(p:dz<=9)(i:∀n:Int,1<=n/\n<=100->gG u 21 [aA n] BX N (rE n))(j:gG u 24 [aA dz] BX N (wC P))(A:ly BX)(B:q<b)(C:q%4096<2048)(t:z<=N)(E:b9 b aC q= .box s [BX,aA z]):gY (sS u [.aQ q s 0,aA (dz+1:Nat)] b aC) b aC q s BX N (wC R):=by
 have w:=eI.start B C t E A
 haveI:=w.aK
 rw[sS,ep,OT,cF];rw[acn];refine kH w.cB (i 14 (by omega)) λr h' e g F=>?_;obtain⟨z,K,dD,rfl⟩:=e
 haveI:=g.aK
 have k:=(F 4).trans ec;obtain⟨z,rfl⟩:∃n:Nat,z=n:=⟨z.toNat,by omega⟩;rw[b8,cz,bA,gB,Fi,ch,cl,bc];by_cases p:z<10;exact RM O i g k rfl (R:=wC R) (λo ho=>⟨o,rfl,D.nS o ho⟩) _ p;rw[t63 z,r4,r4,r4,r4,r4,r4,r4,r4,r4];split;rw[JD,nU];refine kH g (i 4 (by omega)) λr x e h l=>?_;obtain⟨c,c0,L,rfl⟩:=e;obtain⟨cc,rfl⟩:∃n:Nat,c=n:=⟨c.toNat,by omega⟩;rw[b7,show(0:Int)=((0:Nat):Int) from rfl];exact aqC O D (by omega) j (s4:=fK (bN b aC) b 4 42) rfl (cc:=cc) (by omega) cc 0 1000000 x .ba [] (by omega) (by omega) h ((l 4).trans k) (.inl ⟨rfl,rfl⟩) rfl (λa G=>by simp at G);rw[OS,b8,g5,ei,show((dz+1:Nat):Int)-1=dz by omega];refine kH g j λr x e h l=>?_;obtain⟨o,rfl,ho⟩:=e
 haveI:=h.aK
 obtain⟨H,I⟩:=D.p o ho;rw[cF,cM,WO,aS,bO,aP,av,aU,b8,g5,ei,show((dz+1:Nat):Int)-1=dz by omega];refine Kt (h.cB.dp) j λr t e y J=>?_;obtain⟨d,rfl,hd⟩:=e
 haveI:=y.aK
 obtain⟨d1,d2⟩:=D.p d hd;have M:=O.ut o d ⟨H,I⟩ ⟨d1,d2⟩;have Q:(il o d).length=7:=(C2 [o]).1.trans rfl;have S:cg (il o d)=true:=by unfold il;rw[db];rfl
 have T:=(J 4).trans (fS (fZ ((l 4).trans k)));rw[be,be,aP,a6,a6,aq,aq,a0,bO,aP,eS,mj,eU,aU,bJ,a6];rw[aq];exact mo y.dp ⟨_,rfl,D.vF _ _ ho hd⟩
theorem ami:It mz m2:=⟨λo h=>h.p,λo h=>h.am,λl h g=>arh h g,λa d c hd=>alS c hd⟩
theorem alf(O:A6 u)(a:∀n:Int,1<=n/\n<=100->gG u 21 [aA n] BX N (rE n))(c:gG u 24 [aA 0] BX N yU)(d:ly BX)(e:q<b)(g:q%4096<2048)(h:z<=N)(i:b9 b aC q= .box s [BX,aA z]):gY (sS u [.aQ q s 0,aA 1] b aC) b aC q s BX N Ef:=YH (dz:=0) O ami (by omega) a c d e g h i
end
end
end
section
variable{t:az}
section
variable[Tok] {u:Fn}{b:Nat}
def Sl:List (Nat×Nat):=[(3,0x636172),(3,0x636472),(4,0x636f6e73),(5,0x636f6e7370),(3,0x6e6f74),(5,0x657175616c),(2,0x6966),(8,0x62696e6172792d2b),(1,0x3c),(8,0x696e746567657270),(3,0x6c656e),(13,0x62696e6172792d617070656e64),(3,0x726576),(10,0x747275652d6c69737470),(4,0x6e617470),(4,0x706f7370),(7,0x756e6172792d2d),(8,0x62696e6172792d2a),(7,0x696d706c696573),(7,0x73796d626f6c70),(9,0x726174696f6e616c70),(3,0x666978),(3,0x696666),(4,0x6e666978),(2,0x7a70)]
def Sm:List (Nat×Nat):=[(3,0x647562),(8,0x73616d652d6c656e),(5,0x7061697273),(4,0x64756273),(4,0x74726565),(5,0x6576656e73),(4,0x6f646473),(4,0x786f7232)]
def HB(x:Nat×Nat):az:=[.s x.1 x.2]
theorem arQ:(Sl.all λx=>(kn++lQ++lP).any λh=>h.1==4&&(h.2.1==0x6c697370&&(h.2.2.1==x.1&&h.2.2.2.1==x.2)))=true:=by decide+kernel
theorem arR:(Sm.all λx=>(kn++lQ++lP).any λh=>h.1==4&&(h.2.1==0x75736572&&(h.2.2.1==x.1&&h.2.2.2.1==x.2)))=true:=by decide+kernel
theorem acy{d:List (Nat×Nat)}{c0:Nat}(H:(d.all λx=>(kn++lQ++lP).any λh=>h.1==4&&(h.2.1==c0&&(h.2.2.1==x.1&&h.2.2.2.1==x.2)))=true){i:Nat}(hi:i<d.length):∃a c,(d.map HB)[i]? =some [.s a c]/\∃h∈kn++lQ++lP,([.s h.1 h.2.1,.s h.2.2.1 h.2.2.2.1]:az)=[.s 4 c0,.s a c]:=by have g:=kg.1 H _ (Ni hi);obtain⟨h,j,e⟩:=nC.1 g;simp only[cC,rr]at e;refine⟨(d[i]'hi).1,(d[i]'hi).2,by rw[lx,fo hi];rfl,h,j,?_⟩;rw[e.1,e.2.1,e.2.2.1,e.2.2.2]
theorem rM.p(h:rM t):fR t:=(h.ge 0).t11
structure A7 (u:Fn) (w:ao):Prop where
 xO:Nl u 33
 aaK:bf u 34 [] (.aN 1 (Sl.map HB))
 aaL:bf u 35 [] (.aN 1 (Sm.map HB))
 aaM:∀a c,bf u 36 [.s a c] (.agg [dH,.s a c])
 jA:∀a c,bf u 15 [.s a c] (.agg [kD,.s a c])
 GB:∀h∈kn++lQ++lP,bf u 37 [w,.agg [.s h.1 h.2.1,.s h.2.2.1 h.2.2.2.1]] (.bD [aA h.2.2.2.2,.U true])
 zO:∀a1 c1 a2 c2 l,bf u 38 [.agg [.s a1 c1,.s a2 c2],.aN 11 l] (.agg (dI (.s a1 c1) (.s a2 c2) l))
 bv:∃n l,w= .aN n l
section
variable{w:ao}{BX:ao}{N:Nat}{aC:cD}{q s:Nat}
theorem adH{h:aO}{s6:Nat}{a:az}{R:ao->Prop}(c:eI b aC q s BX N h)(g:h.am (b+6)= .box s6 a)(i:a.length=11)(d:fR t)(e:R (.agg t)):gY (bl b none 11 (.aQ (b+6) s6 0) (.agg t) h λ_ h'=>Dm b (.aQ (b+6) s6 0) h') b aC q s BX N R:=by
 haveI:=c.aK
 obtain⟨j,k⟩:=d;rw[cM,Dm,eU,aU,bJ,a6];rw[aq];exact mo c.dp e
end
end
end
section
variable[Tok]
theorem ZW:bV λu=>Nl u 33:=bV.lL.up λn _ o a b=>eO Fz (alc a b)
end
end Go.Hf
