import Derived.Test.YthiipifjdfmblaaGreatDoorAd
set_option linter.all false
namespace Go.Hf
section
variable{v:Value} {k:IntKind} {n:Nat}
inductive an where
 |undef
 |a9 (x:Bool)
 |V (k:IntKind) (n:Nat)
 |s (l n:Nat)
 |aE
 |bu (v:Value)
 |agg (cs:List an)
 |a0 (vs:List an)
 |aQ (sz:Nat) (es:List (List an))
 |ep (cs:List an) (off:Nat)
 |bn (k s off:Nat)
 |az (k s off len:Nat)
 |dH (k s i off:Nat)
 |hG (k s:Nat)
 |gJ (f:Nat) (ar9:List an)
 |tok (i:Nat)
 deriving Inhabited
abbrev aY:=List (List an)
abbrev aB:=List an
def PZ:aG->Bool
 | .bu _=>true
 | .aQ _ _=>true
 | .ep _ _=>true
 |_=>false
class Tok where
 τ:Nat->aG
 ou:∀i,PZ (τ i)=true
theorem rh{p:aG}(h:PZ p=true):(∃v,p= .bu v)\/(∃sz es,p= .aQ sz es)\/∃cs o,p= .ep cs o:=by
 cases p<;>simp[PZ] at h
 ·exact .inl ⟨_,rfl⟩
 ·exact .inr (.inl ⟨_,_,rfl⟩)
 ·exact .inr (.inr ⟨_,_,rfl⟩)
def intOf(n:Nat):Int:=(n:Int)-18446744073709551616
set_option linter.unusedSectionVars false
section
variable[Tok]
mutual
def bi:an->aG
 | .undef=> .undef
 | .a9 x=> .bu (.bool x)
 | .V k n=> .bu (.int k (intOf n))
 | .s l n=> .bu (.string (e7 l n))
 | .aE=>i0
 | .bu v=> .bu v
 | .agg cs=> .agg (gG cs)
 | .a0 cs=> .a0 (gG cs)
 | .aQ sz es=> .aQ sz (km es)
 | .ep cs off=> .ep (gG cs) off
 | .bn k s off=> .bn k s off
 | .az k s off len=> .az k s off len
 | .dH k s i off=> .dH k s i off
 | .hG k s=> .hG k s
 | .gJ f cs=> .gJ f (gG cs)
 | .tok i=>Tok.τ i
def gG:List an->dA
 |[]=>[]
 |x::r=>bi x::gG r
def km:List (List an)->kO
 |[]=>[]
 |x::r=>gG x::km r
end
theorem UP(i:Nat):(Tok.τ i).cells=some [Tok.τ i]:=by rcases rh (Tok.ou i) with⟨v,h⟩|⟨sz,es,h⟩|⟨cs,o,h⟩<;>rw[h]<;>rfl
theorem abU(i:Nat):(Tok.τ i).cf=[]:=by rcases rh (Tok.ou i) with⟨v,h⟩|⟨sz,es,h⟩|⟨cs,o,h⟩<;>rw[h]<;>rfl
theorem YW(i:Nat):(Tok.τ i).key=[]:=by rcases rh (Tok.ou i) with⟨v,h⟩|⟨sz,es,h⟩|⟨cs,o,h⟩<;>rw[h]<;>rfl
theorem YZ(i:Nat):(Tok.τ i).eg=[]:=by rcases rh (Tok.ou i) with⟨v,h⟩|⟨sz,es,h⟩|⟨cs,o,h⟩<;>rw[h]<;>rfl
theorem Yu(i:Nat):(Tok.τ i).cR=[]:=by rcases rh (Tok.ou i) with⟨v,h⟩|⟨sz,es,h⟩|⟨cs,o,h⟩<;>rw[h]<;>rfl
theorem WT(ob:cD)(i:Nat):gV ob (Tok.τ i)=some (Tok.τ i):=by rcases rh (Tok.ou i) with⟨v,h⟩|⟨sz,es,h⟩|⟨cs,o,h⟩<;>rw[h]<;>rfl
theorem RM(ob:cD)(i:Nat):qG ob (Tok.τ i)=some (Tok.τ i):=by rcases rh (Tok.ou i) with⟨v,h⟩|⟨sz,es,h⟩|⟨cs,o,h⟩<;>rw[h]<;>rfl
theorem W4(ob:cD)(i:Nat):jN ob (Tok.τ i)=[]:=by rcases rh (Tok.ou i) with⟨v,h⟩|⟨sz,es,h⟩|⟨cs,o,h⟩<;>rw[h]<;>rfl
theorem Uk(ob:cD)(i:Nat):jE ob (Tok.τ i)=[]:=by rcases rh (Tok.ou i) with⟨v,h⟩|⟨sz,es,h⟩|⟨cs,o,h⟩<;>rw[h]<;>rfl
attribute [simp] UP abU YW YZ Yu WT RM W4 Uk
theorem lm:∀(l:List an),gG l=l.map bi
 |[]=>by simp[gG]
 |x::r=>by simp[gG,lm r]
theorem mB:∀(l:List (List an)),km l=l.map gG
 |[]=>by simp[km]
 |x::r=>by simp[km,mB r]
def A7:an->Option Value
 | .a9 x=>some (.bool x)
 | .V k n=>some (.int k (intOf n))
 | .s l n=>some (.string (e7 l n))
 | .aE=>some (.slice none 0 0)
 | .bu v=>some v
 |_=>none
theorem MR{x:an}(h:A7 x=some v):bi x= .bu v:=by cases x<;>simp[A7] at h<;>subst h<;>simp[bi,i0]
def tr:Value->Option an
 | .bool x=>some (.a9 x)
 | .int k n=>if-18446744073709551616<=n then some (.V k (n+18446744073709551616).toNat) else none
 | .string _=>none
 |v=>some (.bu v)
theorem Lk{x:an}(h:tr v=some x):bi x= .bu v:=by
 unfold tr at h;split at h
 ·cases h;simp[bi]
 ·rename_i k n;split at h
  ·cases h;simp only[bi,intOf];congr 2;omega
  ·cases h
 ·cases h
 ·cases h;simp[bi]
def u1:IntKind->Nat
 | .i8=>18446744073709551488
 | .i16=>18446744073709518848
 | .i32=>18446744071562067968
 | .i64=>9223372036854775808
 |_=>18446744073709551616
def wC:IntKind->Nat
 | .i8=>18446744073709551743
 | .i16=>18446744073709584383
 | .i32=>18446744075857035263
 | .i64=>27670116110564327423
 | .u8=>18446744073709551871
 | .u16=>18446744073709617151
 | .u32=>18446744078004518911
 | .u64=>36893488147419103231
def lr(k:IntKind)(n:Nat):Bool:=Nat.ble (u1 k) n&&Nat.ble n (wC k)
theorem MJ(h:lr k n=true):k.wrap (intOf n)=intOf n:=by
 simp only[lr,Hi] at h;have a:=pn h.1;have b:=pn h.2;unfold intOf;cases k<;>simp only[u1,wC] at a b
 ·exact IntWalk.i8_in _ (by omega)
 ·exact IntWalk.i16_in _ (by omega)
 ·exact IntWalk.i32_in _ (by omega)
 ·exact IntWalk.i64_in _ (by omega)
 ·exact IntWalk.u8_in _ (by omega)
 ·exact IntWalk.u16_in _ (by omega)
 ·exact IntWalk.u32_in _ (by omega)
 ·exact IntWalk.u64_in _ (by omega)
theorem aBf(h:lr k n=true):0<n:=by simp only[lr,Hi] at h;have a:=pn h.1;cases k<;>simp only[u1] at a<;>omega
def vY:IntKind->IntKind->Bool
 | .i64,.i64=>true
 | .u8,.u8=>true
 | .i32,.i32=>true
 | .u64,.u64=>true
 | .u32,.u32=>true
 | .i8,.i8=>true
 | .i16,.i16=>true
 | .u16,.u16=>true
 |_,_=>false
theorem V3{a:IntKind}(h:vY k a=true):k=a:=by cases k<;>cases a<;>first|rfl|(simp[vY] at h)
def AP(f:Value->Value->Option Value)(x y:an):Option an:=
 match A7 x,A7 y with
 |some a,some b=>(f a b).bind tr
 |_,_=>none
def sJ(a:BinOp)(k:IntKind)(x y:Nat):Option an:=
 match a with
 | .add=>bif lr k (Nat.sub (Nat.add x y) 18446744073709551616) then some (.V k (Nat.sub (Nat.add x y) 18446744073709551616)) else none
 | .sub=>bif Nat.ble y (Nat.add x 18446744073709551616)&&lr k (Nat.sub (Nat.add x 18446744073709551616) y) then some (.V k (Nat.sub (Nat.add x 18446744073709551616) y)) else none
 | .eql=>some (.a9 (Nat.beq x y))
 | .neq=>some (.a9 (!Nat.beq x y))
 | .lss=>some (.a9 (Nat.blt x y))
 | .leq=>some (.a9 (Nat.ble x y))
 | .gtr=>some (.a9 (Nat.blt y x))
 | .geq=>some (.a9 (Nat.ble y x))
 |_=>none
theorem aus{d:BinOp}{x y:Nat}{v:an}(h:sJ d k x y=some v):∃z,jW d (.int k (intOf x)) (.int k (intOf y))=some z/\bi v= .bu z:=by
 have i:∀a b:Nat,Nat.blt a b=decide (a<b):=λa b=>by rw[gK];simp[wo]
 have j:∀a b:Nat,Nat.ble a b=decide (a<=b):=λa b=>by rw[gK];simp
 have l:∀a b:Nat,Nat.beq a b=decide (a=b):=λa b=>by rw[gK];simp
 cases d<;>simp only[sJ] at h
 case add=>
  cases c:lr k (Nat.sub (Nat.add x y) 18446744073709551616) with
  |false=>rw[c] at h;simp at h
  |true=>
   rw[c] at h;simp only[lR,O5] at h;subst h;have g:=aBf c;have e:intOf x+intOf y=intOf (Nat.sub (Nat.add x y) 18446744073709551616):=by simp only[intOf,cY,Ct] at g ⊢;omega
   refine⟨.int k (intOf (Nat.sub (Nat.add x y) 18446744073709551616)),?_,by simp only[bi]⟩;simp only[jW,w6,e,MJ c]
 case sub=>
  cases c:(Nat.ble y (Nat.add x 18446744073709551616)&&lr k (Nat.sub (Nat.add x 18446744073709551616) y)) with
  |false=>rw[c] at h;simp at h
  |true=>
   rw[c] at h;simp only[lR,O5] at h;subst h;simp only[Hi] at c;have g:=pn c.1;have e:intOf x-intOf y=intOf (Nat.sub (Nat.add x 18446744073709551616) y):=by simp only[intOf,cY,Ct] at g ⊢;omega
   refine⟨.int k (intOf (Nat.sub (Nat.add x 18446744073709551616) y)),?_,by simp only[bi]⟩;simp only[jW,w6,e,MJ c.2]
 case eql=>cases h;exact⟨_,by simp[jW];rfl,by simp only[bi,intOf,l];congr 2;rw[gK];simp;omega⟩
 case neq=>cases h;exact⟨_,by simp[jW];rfl,by simp only[bi,intOf,l];congr 2;rw[gK];simp;omega⟩
 case lss=>cases h;exact⟨_,by simp[jW];rfl,by simp only[bi,intOf,i];congr 2;rw[gK];simp⟩
 case leq=>cases h;exact⟨_,by simp[jW];rfl,by simp only[bi,intOf,j];congr 2;rw[gK];simp⟩
 case gtr=>cases h;exact⟨_,by simp[jW];rfl,by simp only[bi,intOf,i];congr 2;rw[gK];simp⟩
 case geq=>cases h;exact⟨_,by simp[jW];rfl,by simp only[bi,intOf,j];congr 2;rw[gK];simp⟩
 all_goals cases h
end
end
section
variable{cs:aB}
section
variable[Tok]
def oI:List UInt8->Nat
 |[]=>0
 |c::r=>c.toNat*256^r.length+oI r
theorem Rq:∀(l:List UInt8),oI l<256^l.length
 |[]=>by simp[oI]
 |c::r=>by have h:=Rq r;have a:c.toNat<256:=c.toNat_lt;simp only[oI,JO,nV];have:c.toNat*256^r.length<=255*256^r.length:=dr _ (by omega);omega
theorem HZ:∀(l:List UInt8),gR l.length (oI l)=l
 |[]=>rfl
 |c::r=>by
  have h:=Rq r;have a:0<256^r.length:=Nat.pow_pos (by omega);simp only[JO,gR,oI];congr 1
  ·rw[gp,ly a,uE h,gU];exact UInt8.ofNat_toNat
  ·rw[<-CO,gp,ny,CO,HZ r]
def mm:Value->an
 | .bool x=> .a9 x
 | .int k n=>if-18446744073709551616<=n then .V k (n+18446744073709551616).toNat else .bu (.int k n)
 | .string s=> .s s.data.toList.length (oI s.data.toList)
 | .slice none 0 0=> .aE
 |v=> .bu v
theorem O4(v:Value):bi (mm v)= .bu v:=by
 unfold mm;split
 ·simp[bi]
 ·rename_i k n;split
  ·simp only[bi,intOf];congr 2;omega
  ·simp[bi]
 ·rename_i s;simp only[bi,e7,HZ]
 ·simp[bi,i0]
 ·simp[bi]
def Ld:Value->an
 | .agg cs=> .agg (cs.toList.map mm)
 |v=>mm v
theorem aDT(v:Value):bi (Ld v)=KJ v:=by
 unfold Ld KJ;split
 ·simp only[bi,lm,kW];congr 1;apply rH;intro x _;exact O4 x
 ·rename_i h;split
  ·rename_i cs;exact absurd rfl (h cs)
  ·exact O4 v
inductive dM where
 |ax (s:Nat)
 |box (s:Nat) (cs:aB)
 |az (s e sz:Nat) (es:aY) (as0:Bool)
 |map (s:Nat) (es:List (Value×Value))
 deriving Inhabited
abbrev eH:=List (Nat×dM)
abbrev ej:=Nat->dM
def eJ:dM->Obj
 | .ax s=> .ax s
 | .box s cs=> .box s (gG cs)
 | .az s e sz es as0=> .az s e sz (km es) as0
 | .map s es=> .map s es
def dM.cd:dM->Nat
 | .ax s=>s
 | .box s _=>s
 | .az s _ _ _ _=>s
 | .map s _=>s
theorem xi(o:dM):(eJ o).cd=o.cd:=by cases o<;>rfl
def hR(u:Nat×dM):Nat×Obj:=(u.1,eJ u.2)
def an.cells:an->Option aB
 | .agg cs=>some cs
 | .undef=>none
 | .a0 _=>none
 |v=>some [v]
theorem Fz{x:an}(h:x.cells=some cs):(bi x).cells=some (gG cs):=by
 cases x with
 |tok i=>simp only[an.cells,O5] at h;subst h;simp only[bi,gG];exact UP i
 |_=>simp[an.cells] at h<;>subst h<;>simp[bi,gG,aG.cells,i0]
def an.cf:an->List Nat
 | .bn k _ _=>[k]
 | .az k _ _ _=>[k]
 | .dH k _ _ _=>[k]
 | .hG k _=>[k]
 |_=>[]
theorem ayL(x:an):(bi x).cf=x.cf:=by
 cases x with
 |tok i=>simp only[bi];exact abU i
 |_=>simp[bi,aG.cf,an.cf,i0]
def an.key:an->List Nat
 | .gJ _ ar9=>ar9.flatMap an.cf
 |v=>v.cf
theorem E8(x:an):(bi x).key=x.key:=by
 cases x with
 |gJ f ar9=>simp only[bi,aG.key,an.key,lm,cg];congr 1;funext y;exact ayL y
 |tok i=>simp only[bi];exact YW i
 |_=>simp[bi,aG.key,an.key,aG.cf,an.cf,i0]
def an.eg:an->List Nat
 | .agg cs=>cs.flatMap an.key
 |v=>v.key
theorem Zx(x:an):(bi x).eg=x.eg:=by
 cases x with
 |agg cs=>simp only[bi,aG.eg,an.eg,lm,cg];congr 1;funext y;exact E8 y
 |gJ f ar9=>exact E8 (.gJ f ar9)
 |tok i=>simp only[bi];exact YZ i
 |_=>simp[bi,aG.eg,an.eg,aG.key,an.key,aG.cf,an.cf,i0]
def an.cR:an->List Nat
 | .a0 cs=>cs.flatMap an.eg
 |v=>v.eg
theorem pb(x:an):(bi x).cR=x.cR:=by
 cases x with
 |a0 cs=>simp only[bi,aG.cR,an.cR,lm,cg];congr 1;funext y;exact Zx y
 |agg cs=>exact Zx (.agg cs)
 |gJ f ar9=>exact E8 (.gJ f ar9)
 |tok i=>simp only[bi];exact Yu i
 |_=>simp[bi,aG.cR,an.cR,aG.eg,an.eg,aG.key,an.key,aG.cf,an.cf,i0]
def part(es:aY)(off len:Nat):aY:=bif Nat.beq off 0&&Nat.beq len es.length then es else(es.drop off).take len
theorem Ir(es:aY)(off len:Nat):part es off len=(es.drop off).take len:=by
 unfold part;cases h:(Nat.beq off 0&&Nat.beq len es.length) with
 |false=>rfl
 |true=>simp only[Hi,IY] at h;obtain⟨rfl,rfl⟩:=h;simp
theorem QF(es:aY)(off len:Nat):km ((es.drop off).take len)=((km es).drop off).take len:=by simp only[mB,iz,io]
theorem tb(es:aY):(km es).length=es.length:=by simp[mB]
theorem Fr(es:aB):(gG es).length=es.length:=by simp[lm]
def lE(ob:Nat->dM):an->Option an
 | .az k s off len=>
   match ob k with
   | .az a _ sz es _=>bif Nat.beq s a&&Nat.ble (Nat.add off len) es.length then some (.aQ sz (part es off len)) else none
   |_=>none
 | .a9 x=>some (.a9 x)
 | .V k n=>some (.V k n)
 | .s l n=>some (.s l n)
 | .aE=>some .aE
 | .bu v=>some (.bu v)
 | .aQ sz es=>some (.aQ sz es)
 | .ep cs off=>some (.ep cs off)
 | .tok i=>some (.tok i)
 |_=>none
theorem acL{ob:Nat->dM}{x y:an}(h:lE ob x=some y):gV (λk=>eJ (ob k)) (bi x)=some (bi y):=by
 cases x with
 |az k s off len=>
  simp only[lE] at h;split at h
  ·rename_i b e sz es as0 c;cases a:(Nat.beq s b&&Nat.ble (Nat.add off len) es.length) with
   |false=>rw[a] at h;simp at h
   |true=>rw[a] at h;simp only[lR,O5] at h;subst h;simp only[Hi,IY] at a;have d:=pn a.2;simp only[bi,gV,c,eJ,tb];rw[y1 ⟨a.1,d⟩,Ir,QF]
  ·cases h
 |tok i=>simp only[lE,O5] at h;subst h;simp only[bi];exact WT _ i
 |_=>simp[lE] at h<;>subst h<;>simp[bi,gV,i0]
def pS(ob:Nat->dM):aB->Option aB
 |[]=>some []
 |p::a=>match lE ob p,pS ob a with
  |some q,some b=>some (q::b)
  |_,_=>none
theorem abv{ob:Nat->dM}:∀{xs ys:aB},pS ob xs=some ys->oE (λk=>eJ (ob k)) (gG xs)=some (gG ys)
 |[],ys,h=>by cases h;simp[gG,oE]
 |x::xs,ys,h=>by
  simp only[pS] at h;split at h
  ·rename_i q c a b;cases h;simp only[gG,oE,acL a,abv b]
  ·cases h
def l8(ob:Nat->dM):an->Option an
 | .agg cs=>match pS ob cs with
   |some a=>some (.agg a)
   |none=>none
 |v=>lE ob v
theorem Dy{ob:Nat->dM}{x y:an}(h:l8 ob x=some y):qG (λk=>eJ (ob k)) (bi x)=some (bi y):=by
 cases x with
 |agg cs=>
  simp only[l8] at h;split at h
  ·rename_i b a;cases h;simp only[bi,qG,abv a,NL]
  ·cases h
 |az k s off len=>exact acL (x:= .az k s off len) h
 |tok i=>simp only[l8,lE,O5] at h;subst h;simp only[bi];exact RM _ i
 |_=>simp[l8,lE] at h<;>subst h<;>simp[bi,qG,gV,i0]
def pq(ob:Nat->dM):an->List (Nat×dM)
 | .az k _ _ _=>
   match ob k with
   | .az s e sz es true=>[(k,.az s e sz es false)]
   |_=>[]
 |_=>[]
theorem TM(ob:Nat->dM)(x:an):jN (λk=>eJ (ob k)) (bi x)=(pq ob x).map hR:=by
 cases x with
 |az k s off len=>
  simp only[bi,jN,pq];cases a:ob k with
  |az s e sz es as0=>cases as0<;>simp[eJ,hR]
  |_=>simp[eJ]
 |tok i=>simp only[bi];exact W4 _ i
 |_=>simp[bi,jN,pq,i0]
def oh(ob:Nat->dM):an->List (Nat×dM)
 | .agg cs=>cs.flatMap (pq ob)
 |v=>pq ob v
theorem J9(ob:Nat->dM)(x:an):jE (λk=>eJ (ob k)) (bi x)=(oh ob x).map hR:=by
 cases x with
 |agg cs=>simp only[bi,jE,oh,lm,cg,List.map_flatMap];congr 1;funext y;exact TM ob y
 |az k s off len=>exact TM ob (.az k s off len)
 |tok i=>simp only[bi];exact Uk _ i
 |_=>simp[bi,jE,jN,oh,pq,i0]
def rC(ob:Nat->dM)(sz:Nat):an->Option aY
 | .aE=>some []
 | .aQ a es=>bif Nat.beq a sz then some es else none
 | .az k s off len=>
   match ob k with
   | .az b _ a es _=>bif Nat.beq s b&&Nat.beq a sz&&Nat.ble (Nat.add off len) es.length then some (part es off len) else none
   |_=>none
 |_=>none
theorem Kq{ob:Nat->dM}{sz:Nat}{x:an}{es:aY}(h:rC ob sz x=some es):iZ (λk=>eJ (ob k)) sz (bi x)=some (km es):=by
 cases x with
 |aE=>simp[rC] at h;subst h;simp[bi,i0,iZ,km]
 |aQ b asH=>
  simp only[rC] at h;cases a:Nat.beq b sz with
  |false=>rw[a] at h;simp at h
  |true=>rw[a] at h;simp only[lR,O5] at h;subst h;have:=dp a;simp[bi,iZ,this]
 |az k s off len=>
  simp only[rC] at h;split at h
  ·rename_i c e b asH as0 d;cases a:(Nat.beq s c&&Nat.beq b sz&&Nat.ble (Nat.add off len) asH.length) with
   |false=>rw[a] at h;simp at h
   |true=>rw[a] at h;simp only[lR,O5] at h;subst h;simp only[Hi,IY] at a;have g:=pn a.2;simp only[bi,iZ,d,eJ,tb];rw[y1 ⟨a.1.1,a.1.2,g⟩,Ir,QF]
  ·cases h
 |_=>simp[rC] at h
def qr(isAgg:Bool)(n:Nat)(cs:aB)(off:Nat):Option an:=
 bif isAgg then(bif Nat.ble (Nat.add off n) cs.length then some (.agg ((cs.drop off).take n)) else none) else cs[off]?
theorem Bi{isAgg:Bool}{n off:Nat}{v:an}(h:qr isAgg n cs off=some v):o8 isAgg n (gG cs) off=some (bi v):=by
 cases isAgg with
 |true=>
  simp only[qr,lR] at h;cases a:Nat.ble (Nat.add off n) cs.length with
  |false=>rw[a] at h;simp at h
  |true=>rw[a] at h;simp only[lR,O5] at h;subst h;have b:off+n<=cs.length:=pn a;simp only[o8,w6,Fr];rw[y1 b];simp only[bi,lm,iz,io]
 |false=>simp only[qr,cond_false] at h;simp only[o8,Nn,st,lm,O8,h,NL]
def rI(cs:aB)(off:Nat)(new:aB):aB:=cs.take off++new++cs.drop (off+new.length)
theorem KT(cs:aB)(off:Nat)(new:aB):mO (gG cs) off (gG new)=gG (rI cs off new):=by simp only[mO,rI,lm,LZ,iz,io,ER]
end
end
section
variable{x y v:an}
section
variable[Tok]
theorem AA(l:List Value):gG (l.map mm)=l.map aG.bu:=by rw[lm,kW];apply rH;intro x _;exact O4 x
abbrev n0:=Option (an×eH)
def eR(x:Option an):n0:=match x with|some v=>some (v,[])|none=>none
def Ma(c a b:an):Option an:=match c with| .a9 true=>some a| .a9 false=>some b|_=>none
def uv(cs:aB):List (Nat×Nat×an)->Option aB
 |[]=>some cs
 |(off,n,x)::r=>
  match x.cells with
  |some new=>bif Nat.beq new.length n&&Nat.ble (Nat.add off n) cs.length then uv (rI cs off new) r else none
  |none=>none
def x7(ob:ej)(sz:Nat)(es:aY):List (Nat×an)->Option aY
 |[]=>some es
 |(i,x)::r=>
  match l8 ob x with
  |some q=>match q.cells with
   |some new=>bif Nat.beq new.length sz&&Nat.blt i es.length then x7 ob sz (es.set i new) r else none
   |none=>none
  |none=>none
def Aa(ob:ej)(isAgg:Bool)(n:Nat)(a:an):Option an:=
 match a with
 | .bn k s off=>match ob k with
   | .box b cs=>bif Nat.beq s b then qr isAgg n cs off else none
   |_=>none
 | .dH k s i off=>match ob k with
   | .az b _ _ es _=>bif Nat.beq s b then(match es[i]? with|some cs=>qr isAgg n cs off|none=>none) else none
   |_=>none
 | .ep cs off=>qr isAgg n cs off
 |_=>none
def qh(ob:ej)(n:Nat)(a v:an):n0:=
 match a with
 | .bn k s off=>match ob k,v.cells with
   | .box b cs,some new=>bif Nat.beq s b&&Nat.beq new.length n&&Nat.ble (Nat.add off n) cs.length then some (.undef,[(k,.box s (rI cs off new))]) else none
   |_,_=>none
 | .dH k s i off=>match ob k,l8 ob v with
   | .az b e sz es true,some q=>match q.cells,es[i]? with
     |some new,some cs=>bif Nat.beq s b&&Nat.beq new.length n&&Nat.ble (Nat.add off n) cs.length&&v.cR.isEmpty then some (.undef,[(k,.az s e sz (es.set i (rI cs off new)) true)]) else none
     |_,_=>none
   |_,_=>none
 |_=>none
def KO:an->Option an
 | .bn k s off=>some (.bn k s off)
 | .dH k s i off=>some (.dH k s i off)
 | .ep cs off=>some (.ep cs off)
 |_=>none
def r3(l n a b:Nat):Bool:=Op.bytesLess (gR l n) (gR a b)
def fA(e:BinOp)(x y:an):Option an:=
 match x,y with
 | .V k a,.V g b=>bif vY k g then(match sJ e k a b with|some v=>some v|none=>AP (jW e) x y) else none
 | .s l n,.s c d=>match e with
   | .eql=>some (.a9 (px l n c d))
   | .neq=>some (.a9 (!px l n c d))
   | .lss=>some (.a9 (r3 l n c d))
   | .leq=>some (.a9 (r3 l n c d||px l n c d))
   | .gtr=>some (.a9 (!(r3 l n c d||px l n c d)))
   | .geq=>some (.a9 (!r3 l n c d))
   | .add=>bif Nat.ble (Nat.add l c) 9223372036854775807 then some (.s (Nat.add l c) (Nat.add (Nat.mul n (Nat.pow 256 c)) (Nat.mod d (Nat.pow 256 c)))) else none
   |_=>none
 |_,_=>none
theorem Qn{f:Value->Value->Option Value}(h:AP f x y=some v):∃a b z,bi x= .bu a/\bi y= .bu b/\f a b=some z/\bi v= .bu z:=by
 unfold AP at h;split at h
 ·rename_i a b c d;rw[vC] at h;obtain⟨z,e,g⟩:=h;exact⟨a,b,z,MR c,MR d,e,Lk g⟩
 ·cases h
theorem FG(l n a b:Nat):r3 l n a b=Op.bytesLess (e7 l n).toList (e7 a b).toList:=by unfold r3;rw[HG,HG,pX,pX]
theorem aBS{j:BinOp}(h:fA j x y=some v):∃a b z,bi x= .bu a/\bi y= .bu b/\jW j a b=some z/\bi v= .bu z:=by
 unfold fA at h;split at h
 ·rename_i k a o b;cases g:vY k o with
  |false=>rw[g] at h;simp at h
  |true=>
   rw[g] at h;have e:=V3 g;subst e;simp only[lR] at h;split at h
   ·rename_i w p;cases h;obtain⟨z,q,r⟩:=aus p;exact⟨_,_,z,by simp[bi],by simp[bi],q,r⟩
   ·exact Qn h
 ·rename_i l n c d;split at h
  ·cases h;exact⟨.string (e7 l n),.string (e7 c d),.bool ((e7 l n).toList==(e7 c d).toList),by simp only[bi],by simp only[bi],by simp only[jW],by simp only[bi,yi]⟩
  ·cases h;exact⟨.string (e7 l n),.string (e7 c d),.bool (!((e7 l n).toList==(e7 c d).toList)),by simp only[bi],by simp only[bi],by simp only[jW],by simp only[bi,yi]⟩
  ·cases h;exact⟨.string (e7 l n),.string (e7 c d),.bool (Op.bytesLess (e7 l n).toList (e7 c d).toList),by simp only[bi],by simp only[bi],by simp only[jW],by simp only[bi,yi,FG]⟩
  ·cases h;exact⟨.string (e7 l n),.string (e7 c d),.bool (Op.bytesLess (e7 l n).toList (e7 c d).toList||(e7 l n).toList==(e7 c d).toList),by simp only[bi],by simp only[bi],by simp only[jW],by simp only[bi,yi,FG]⟩
  ·cases h;exact⟨.string (e7 l n),.string (e7 c d),.bool (!(Op.bytesLess (e7 l n).toList (e7 c d).toList||(e7 l n).toList==(e7 c d).toList)),by simp only[bi],by simp only[bi],by simp only[jW],by simp only[bi,yi,FG]⟩
  ·cases h;exact⟨.string (e7 l n),.string (e7 c d),.bool (!Op.bytesLess (e7 l n).toList (e7 c d).toList),by simp only[bi],by simp only[bi],by simp only[jW],by simp only[bi,yi,FG]⟩
  ·cases i:Nat.ble (Nat.add l c) 9223372036854775807 with
   |false=>rw[i] at h;simp at h
   |true=>
    rw[i] at h;simp only[lR,O5] at h;subst h;have t:l+c<=9223372036854775807:=pn i;refine⟨.string (e7 l n),.string (e7 c d),.string (e7 l n++e7 c d),by simp only[bi],by simp only[bi],?_,?_⟩
    ·simp only[jW,xK];rw[Ca];show¬((l+c:Nat):Int)>9223372036854775807;omega
    ·simp only[bi,ahd];rfl
  ·cases h
 ·cases h
def Q4(neg:Bool)(x y:an):Option an:=match x,y with| .a9 a,.a9 b=>some (.a9 (xor neg (a==b)))|_,_=>none
def HH(neg:Bool)(x y:an):Option an:=match x,y with
 | .agg [.s a n,.s b m],.agg [.s c d,.s e g]=>some (.a9 (xor neg (px a n c d&&px b m e g)))
 |_,_=>none
def Kj(neg:Bool)(x:an):Option an:=match x with
 | .aE=>some (.a9 !neg)
 | .aQ _ _=>some (.a9 neg)
 | .az _ _ _ _=>some (.a9 neg)
 |_=>none
def Ee(c:UnOp)(x:an):Option an:=match x with
 | .a9 a=>match c with| .not=>some (.a9 !a)|_=>none
 |x=>match A7 x with|some a=>(EB c a).bind tr|none=>none
def hs(k:IntKind)(x:an):Option an:=match x with
 | .V _ n=>bif lr k n then some (.V k n) else tr (.int k (k.wrap (intOf n)))
 |_=>none
def pt(a:BinOp)(x y:an):Option an:=AP (Ak a) x y
def Qy(a:BinOp)(x y:an):Option an:=AP (Jm a) x y
def p3(asy:Nat)(x:Option an):Option Nat:=match x with
 |none=>some asy
 |some (.V _ n)=>bif Nat.ble 18446744073709551616 n then some (Nat.sub n 18446744073709551616) else none
 |_=>none
def Jj(x:an)(lo hi:Option an):Option an:=match x with
 | .s l n=>match p3 0 lo,p3 l hi with
   |some a,some b=>bif Nat.ble a b&&Nat.ble b l then some (.s (Nat.sub b a) (Nat.mod (Nat.div n (Nat.pow 256 (Nat.sub l b))) (Nat.pow 256 (Nat.sub b a)))) else none
   |_,_=>none
 |_=>none
def z0(ob:ej)(sz:Nat)(x:an)(lo hi:Option an):Option an:=match x with
 | .aQ a es=>match p3 0 lo,p3 es.length hi with
   |some l,some h=>bif Nat.beq a sz&&Nat.ble l h&&Nat.ble h es.length then some (.aQ sz (part es l (Nat.sub h l))) else none
   |_,_=>none
 | .az k s off len=>match p3 0 lo,p3 len hi,ob k with
   |some l,some h,.az b _ a _ _=>bif Nat.beq s b&&Nat.beq a sz&&Nat.ble l h&&Nat.ble h len then some (.az k s (Nat.add off l) (Nat.sub h l)) else none
   |_,_,_=>none
 | .aE=>match p3 0 lo,p3 0 hi with
   |some 0,some 0=>some .aE
   |_,_=>none
 |_=>none
def Q2(o:Nat)(x:an):Option an:=match x with
 | .bn k s off=>some (.bn k s (Nat.add off o))
 | .dH k s i off=>some (.dH k s i (Nat.add off o))
 | .ep cs off=>some (.ep cs (Nat.add off o))
 |_=>none
def Mf(isAgg:Bool)(off n:Nat)(x:an):Option an:=match x with
 | .agg cs=>qr isAgg n cs off
 |_=>none
def BD(ob:ej)(sz:Nat)(x i:an):Option an:=match x,i with
 | .aQ a es,.V _ n=>bif Nat.beq a sz&&Nat.ble 18446744073709551616 n then(match es[Nat.sub n 18446744073709551616]? with|some cs=>some (.ep cs 0)|none=>none) else none
 | .az k s off len,.V _ n=>match ob k with
   | .az b _ a _ _=>bif Nat.beq s b&&Nat.beq a sz&&Nat.ble 18446744073709551616 n&&Nat.blt (Nat.sub n 18446744073709551616) len then some (.dH k s (Nat.add off (Nat.sub n 18446744073709551616)) 0) else none
   |_=>none
 |_,_=>none
def HT(x i:an):Option an:=match x,i with
 | .s l n,.V _ m=>bif Nat.ble 18446744073709551616 m&&Nat.blt (Nat.sub m 18446744073709551616) l then
  some (.V .u8 (Nat.add 18446744073709551616 (Nat.mod (Nat.div n (Nat.pow 256 (Nat.sub (Nat.sub l 1) (Nat.sub m 18446744073709551616)))) 256))) else none
 |_,_=>none
def G5(x:an)(i:Nat):Option an:=match x with
 | .a0 (.undef::_)=>none
 | .a0 vs=>vs[i]?
 |_=>none
def Qd(a:Bool)(x:an):Option an:=match a,x with
 |true,.s l _=>some (.V .i64 (Nat.add 18446744073709551616 l))
 |false,.aE=>some (.V .i64 18446744073709551616)
 |false,.aQ _ es=>some (.V .i64 (Nat.add 18446744073709551616 es.length))
 |false,.az _ _ _ len=>some (.V .i64 (Nat.add 18446744073709551616 len))
 |_,_=>none
def Ae:an->Bool
 | .a0 _=>true
 |_=>false
def p8(ob:ej)(d e sz bytes:Nat)(s x:an)(as0:Bool):n0:=
 match s,rC ob sz x with
 | .aE,some ys=>
   bif Nat.ble (Nat.mul ys.length bytes) 1099511627776&&Nat.ble ys.length 1099511627776 then
    match ys with
    |[]=>some (.aE,[])
    |_=>some (.az d (Nat.add (ob d).cd 1) 0 ys.length,[(d,.az (Nat.add (ob d).cd 1) e sz ys as0)])
   else none
 | .az k aM 0 len,some ys=>match ob k with
   | .az b c a es r=>
     bif Nat.beq aM b&&Nat.beq c e&&Nat.beq a sz&&(Nat.beq len es.length||(r&&Nat.ble len es.length))&&Nat.ble (Nat.mul (Nat.add len ys.length) bytes) 1099511627776&&Nat.ble (Nat.add len ys.length) 1099511627776 then
      some (.az k (Nat.add aM 1) 0 (Nat.add len ys.length),[(k,.az (Nat.add aM 1) e sz (es.take len++ys) r)])
     else none
   |_=>none
 | .a0 [.undef,.aQ a es],some ys=>
   bif Nat.beq a sz&&Nat.ble 1 ys.length&&Nat.ble (Nat.mul (Nat.add es.length ys.length) bytes) 1099511627776&&Nat.ble (Nat.add es.length ys.length) 1099511627776 then
    some (.az d (Nat.add (ob d).cd 1) 0 (Nat.add es.length ys.length),[(d,.az (Nat.add (ob d).cd 1) e sz (es++ys) as0)])
   else none
 |_,_=>none
noncomputable def uK(l n:Nat):aY:=
 @Nat.rec (λ_=>aY) [] (λk a=>[.V .u8 (Nat.add 18446744073709551616 (Nat.mod (Nat.div n (Nat.pow 256 k)) 256))]::a) l
def ov(n sz:Nat)(x i:an):Option an:=match x,i with
 | .bn k s off,.V _ m=>bif Nat.ble 18446744073709551616 m&&Nat.ble (Nat.succ (Nat.sub m 18446744073709551616)) n then some (.bn k s (Nat.add off (Nat.mul (Nat.sub m 18446744073709551616) sz))) else none
 |_,_=>none
def pR(c:Bool)(x y:an):Option an:=match x,y with
 | .V k a,.V d b=>bif vY k d then some (.V k (bif c then(bif Nat.blt a b then b else a) else(bif Nat.blt b a then b else a))) else none
 |_,_=>none
def nf(d e sz bytes:Nat)(g:Nat)(zero:aB)(l c:an):n0:=match l,c with
 | .V .i64 a,.V .i64 b=>
   bif Nat.ble 18446744073709551616 a&&Nat.ble a b&&Nat.ble (Nat.mul (Nat.sub b 18446744073709551616) bytes) 1099511627776&&Nat.ble (Nat.sub b 18446744073709551616) 1099511627776 then
    some (.az d (Nat.add g 1) 0 (Nat.sub a 18446744073709551616),[(d,.az (Nat.add g 1) e sz (List.replicate (Nat.sub a 18446744073709551616) zero) true)])
   else none
 |_,_=>none
def F9:aY->Option (List Nat)
 |[]=>some []
 |[.V .u8 n]::r=>bif Nat.ble 18446744073709551616 n then(match F9 r with|some l=>some (Nat.sub n 18446744073709551616::l)|none=>none) else none
 |_=>none
def In(ob:ej)(x:an):Option an:=match rC ob 1 x with
 |some es=>match F9 es with
  |some l=>some (.s l.length (oI (l.map UInt8.ofNat)))
  |none=>none
 |none=>none
def QZ:an->Bool
 | .bn _ _ _=>true
 | .bu (.pointer none)=>true
 |_=>false
def P9(l:aB):Bool:=l.all QZ&&l.any λp=>match p with| .bn _ _ _=>true|_=>false
def FF(f:Nat)(l:aB):Option an:=match l with
 |[]=>some (.bu (.func (.func f) #[] #[]))
 |_=>bif P9 l then some (.gJ f l) else none
def vo:an->Option an
 | .aE=>some (.V .i64 18446744073709551616)
 |_=>none
def ua(d e sz bytes aM:Nat)(z:aB)(s x:an)(as0:Bool):n0:=
 match s,x with
 | .aE,.V .i64 m=>bif Nat.ble 18446744073709551617 m&&Nat.ble (Nat.mul (Nat.sub m 18446744073709551616) bytes) 1099511627776&&Nat.ble (Nat.sub m 18446744073709551616) 1099511627776 then
  some (.az d (Nat.add aM 1) 0 (Nat.sub m 18446744073709551616),[(d,.az (Nat.add aM 1) e sz (List.replicate (Nat.sub m 18446744073709551616) z) as0)]) else none
 |_,_=>none
def zF(ob:ej)(e sz:Nat)(z:aB)(x:an):n0:=
 match x with
 | .aE=>some (.a0 [],[])
 | .az k s off len=>match ob k with
   | .az a b c es true=>bif Nat.beq s a&&Nat.beq b e&&Nat.beq c sz&&Nat.ble (Nat.add off len) es.length then
    some (.a0 [],[(k,.az s e sz (es.take off++List.replicate len z++es.drop (Nat.add off len)) true)]) else none
   |_=>none
 |_=>none
def w3:an->Bool
 | .V _ _=>true
 |_=>false
def v7(ob:ej)(n:Nat)(x:an):n0:=match x with
 | .bn k s 0=>match ob k with
   | .box a cs=>bif Nat.beq s a&&Nat.beq cs.length n&&Nat.ble n 1048576&&cs.all w3 then some (.aQ 1 (cs.map λq=>[q]),[(k,.ax s)]) else none
   |_=>none
 |_=>none
noncomputable def oS{α:Type}(ev:α->an)(ob:ej)(d:Nat):ds α->n0
 | .qg x=>some (ev x,[])
 | .pick c a b=>eR (Ma (ev c) (ev a) (ev b))
 | .alloc t zero=>some (.bn d (jG (ob d).cd t) 0,[(d,.box (jG (ob d).cd t) (zero.map mm))])
 | .box t x=>match(ev x).cells with
   |some cs=>some (.bn d (jG (ob d).cd t) 0,[(d,.box (jG (ob d).cd t) cs)])
   |none=>none
 | .build zero h=>match uv (zero.map mm) (h.map λq=>(q.1,q.2.1,ev q.2.2)) with
   |some cs=>some (.agg cs,[])
   |none=>none
 | .m4 e sz zero len h as0=>match x7 ob sz (List.replicate len (zero.map mm)) (h.map λq=>(q.1,ev q.2)) with
   |some es=>some (.az d (Nat.add (ob d).cd 1) 0 len,h.flatMap (λp=>oh ob (ev p.2))++[(d,.az (Nat.add (ob d).cd 1) e sz es as0)])
   |none=>none
 | .load isAgg n a=>eR (Aa ob isAgg n (ev a))
 | .store n a v=>qh ob n (ev a) (ev v)
 | .qj x=>eR (KO (ev x))
 | .qo g x y=>eR (fA g (ev x) (ev y))
 | .p1 neg x y=>eR (Q4 neg (ev x) (ev y))
 | .qn neg x y=>eR (HH neg (ev x) (ev y))
 | .pK neg x=>eR (Kj neg (ev x))
 | .nC g x=>eR (Ee g (ev x))
 | .p4 k x=>eR (hs k (ev x))
 | .oQ x=>eR (In ob (ev x))
 | .oJ e sz bytes zero l c=>nf d e sz bytes (ob d).cd (zero.map mm) (ev l) (ev c)
 | .p9 x lo hi=>eR (Jj (ev x) (lo.map ev) (hi.map ev))
 | .o9 sz x lo hi=>eR (z0 ob sz (ev x) (lo.map ev) (hi.map ev))
 | .p6 o x=>eR (Q2 o (ev x))
 | .p5 isAgg off n x=>eR (Mf isAgg off n (ev x))
 | .ji sz x i=>eR (BD ob sz (ev x) (ev i))
 | .pJ x i=>eR (HT (ev x) (ev i))
 | .ext x i=>eR (G5 (ev x) i)
 | .len j x=>eR (Qd j (ev x))
 | .append e sz bytes s x as0=>p8 ob d e sz bytes (ev s) (ev x) as0
 | .mM e bytes s x as0=>match ev x with
   | .s l n=>bif Ae (ev s) then none else p8 ob d e 1 bytes (ev s) (.aQ 1 (uK l n)) as0
   |_=>none
 | .kV r x y=>eR (pR r (ev x) (ev y))
 | .pB n sz x i=>eR (ov n sz (ev x) (ev i))
 | .e0 g x y=>eR (pt g (ev x) (ev y))
 | .bits g x y=>eR (Qy g (ev x) (ev y))
 | .qa f ar9=>eR (FF f (ar9.map ev))
 | .pF x=>eR (vo (ev x))
 | .oy e sz bytes zero s x as0=>ua d e sz bytes (ob d).cd (zero.map mm) (ev s) (ev x) as0
 | .oO e sz zero x=>zF ob e sz (zero.map mm) (ev x)
 | .oF n x=>v7 ob n (ev x)
 |_=>none
end
end
section
variable{n e bytes:Nat} {y:an} {as0:Bool}
section
variable[Tok]
theorem oe(s:Nat)(cs:aB):eJ (.box s cs)= .box s (gG cs):=rfl
theorem lX(s e sz:Nat)(es:aY)(as0:Bool):eJ (.az s e sz es as0)= .az s e sz (km es) as0:=rfl
theorem pj(s:Nat)(es:List (Value×Value)):eJ (.map s es)= .map s es:=rfl
theorem kg{x:Option an}{v:an}{us:eH}(h:eR x=some (v,us)):x=some v/\us=[]:=by
 unfold eR at h;split at h
 ·cases h;exact⟨rfl,rfl⟩
 ·cases h
theorem aa6:∀{b:List (Nat×Nat×an)} {cs asq:aB},uv cs b=some asq->pg bi (gG cs) b=some (gG asq)
 |[],cs,asq,h=>by cases h;rfl
 |(off,n,x)::r,cs,asq,h=>by
  simp only[uv] at h;split at h
  ·rename_i new c;cases a:(Nat.beq new.length n&&Nat.ble (Nat.add off n) cs.length) with
   |false=>rw[a] at h;simp at h
   |true=>rw[a] at h;simp only[lR] at h;simp only[Hi,IY] at a;have g:off+n<=cs.length:=pn a.2;simp only[pg,Fz c,Fr];rw[y1 ⟨a.1,g⟩,KT];exact aa6 h
  ·cases h
theorem V1(es:aY)(i:Nat)(new:aB):km (es.set i new)=(km es).set i (gG new):=by simp only[mB,List.map_set]
theorem RG{ob:ej}{sz:Nat}:∀{b:List (Nat×an)} {es asH:aY},x7 ob sz es b=some asH->lD bi (λk=>eJ (ob k)) sz (km es) b=some (km asH)
 |[],es,asH,h=>by cases h;rfl
 |(i,x)::r,es,asH,h=>by
  simp only[x7] at h;split at h
  ·rename_i q c;split at h
   ·rename_i new g;cases a:(Nat.beq new.length sz&&Nat.blt i es.length) with
    |false=>rw[a] at h;simp at h
    |true=>
     rw[a] at h;simp only[lR] at h;simp only[Hi,IY] at a;have j:i<es.length:=by have:=a.2;simpa[wo] using this
     simp only[lD,Dy c,h9,Fz g,Fr,tb];rw[y1 ⟨a.1,j⟩,<-V1];exact RG h
   ·cases h
  ·cases h
theorem Pg(es:aY)(i:Nat):(km es)[i]? =(es[i]?).map gG:=by simp[mB]
theorem aiP(es:aB)(i:Nat):(gG es)[i]? =(es[i]?).map bi:=by simp[lm]
theorem uf{α:Type}{ev:α->an}{asy:Nat}{x:Option α}(h:p3 asy (x.map ev)=some n):tP (λx=>bi (ev x)) asy x=some n:=by
 cases x with
 |none=>cases h;rfl
 |some y=>
  simp only[NL,p3] at h;split at h
  ·rename_i a;cases a
  ·rename_i k m a;simp only[O5] at a;cases b:Nat.ble 18446744073709551616 m with
   |false=>rw[b] at h;simp at h
   |true=>
    rw[b] at h;simp only[lR,O5] at h;subst h;have i:=pn b;have c:(0:Int)<=intOf m:=by unfold intOf;omega
    have g:(intOf m).toNat=m-18446744073709551616:=by unfold intOf;omega
    simp only[tP,a,bi];rw[y1 c,g];rfl
  ·cases h
theorem vG(h:18446744073709551616<=n):(0:Int)<=intOf n/\(intOf n).toNat=n-18446744073709551616:=by unfold intOf;omega
section
variable{α:Type} {ev:α->an} {ob:ej} {d:Nat} {v:an} {us:eH}
theorem auk{isAgg:Bool}{a:α}(h:Aa ob isAgg n (ev a)=some v):b6 (λx=>bi (ev x)) (λk=>eJ (ob k)) d (.load isAgg n a)=some (bi v,[]):=by
 unfold Aa at h;simp only[b6];split at h
 ·rename_i k s off c;rw[c];simp only[bi];split at h
  ·rename_i g cs j;cases b:Nat.beq s g with
   |false=>rw[b] at h;simp at h
   |true=>rw[b] at h;simp only[lR] at h;have e:=dp b;simp only[j,oe,lX,pj,e,w6,Bi h,NL]
  ·cases h
 ·rename_i k s i off c;rw[c];simp only[bi];split at h
  ·rename_i g e sz es as0 j;cases b:Nat.beq s g with
   |false=>rw[b] at h;simp at h
   |true=>
    rw[b] at h;simp only[lR] at h;have e:=dp b;split at h
    ·rename_i cs l;simp only[j,oe,lX,pj,e,w6,Pg,l,NL,h9,Bi h]
    ·cases h
  ·cases h
 ·rename_i cs off c;rw[c];simp only[bi,Bi h,NL]
 ·cases h
theorem amC{a x:α}(h:qh ob n (ev a) (ev x)=some (v,us)):b6 (λx=>bi (ev x)) (λk=>eJ (ob k)) d (.store n a x)=some (bi v,us.map hR):=by
 unfold qh at h;simp only[b6];split at h
 ·rename_i k s off c;rw[c];simp only[bi];split at h
  ·rename_i g cs new j l;cases b:(Nat.beq s g&&Nat.beq new.length n&&Nat.ble (Nat.add off n) cs.length) with
   |false=>rw[b] at h;simp at h
   |true=>rw[b] at h;simp only[lR,O5,pV] at h;obtain⟨rfl,rfl⟩:=h;simp only[Hi,IY] at b;have o:off+n<=cs.length:=pn b.2;simp only[j,oe,lX,pj,Fz l,Fr];rw[y1 ⟨b.1.1,b.1.2,o⟩,KT];simp[bi,hR,oe,lX,pj]
  ·cases h
 ·rename_i k s i off c;rw[c];simp only[bi];split at h
  ·rename_i g e sz es q j p;split at h
   ·rename_i new cs l r;cases b:(Nat.beq s g&&Nat.beq new.length n&&Nat.ble (Nat.add off n) cs.length&&(ev x).cR.isEmpty) with
    |false=>rw[b] at h;simp at h
    |true=>rw[b] at h;simp only[lR,O5,pV] at h;obtain⟨rfl,rfl⟩:=h;simp only[Hi,IY,List.isEmpty_iff] at b;have o:off+n<=cs.length:=pn b.1.2;simp only[j,oe,lX,pj,Dy p,h9,Fz l,Pg,r,NL,Fr,pb];rw[y1 ⟨b.1.1.1,b.1.1.2,o,b.2⟩,KT,<-V1];simp[bi,hR,oe,lX,pj]
   ·cases h
  ·cases h
 ·cases h
theorem ahE[Tok](h:bi y= .undef):y= .undef:=by
 cases y<;>simp[bi,i0] at h
 ·rfl
 ·rename_i i;have:=Tok.ou i;rw[h] at this;cases this
theorem X0{sz:Nat}{s x:α}(h:p8 ob d e sz bytes (ev s) (ev x) as0=some (v,us)):b6 (λx=>bi (ev x)) (λk=>eJ (ob k)) d (.append e sz bytes s x as0)=some (bi v,us.map hR):=by
 unfold p8 at h;simp only[b6];split at h
 ·rename_i ys b c;rw[b];simp only[bi,i0,Kq c,tb];cases a:(Nat.ble (Nat.mul ys.length bytes) 1099511627776&&Nat.ble ys.length 1099511627776) with
  |false=>rw[a] at h;simp at h
  |true=>
   rw[a] at h;simp only[lR] at h;simp only[Hi] at a;have q:ys.length*bytes<=1099511627776:=pn a.1;have g:ys.length<=1099511627776:=pn a.2;rw[y1 ⟨q,g⟩];cases ys with
   |nil=>cases h;simp[bi,i0]
   |cons y r=>simp only[O5,pV] at h;obtain⟨rfl,rfl⟩:=h;simp[bi,hR,oe,lX,pj,xi]
 ·rename_i k aM len ys b c;rw[b];simp only[bi,Kq c,tb];split at h
  ·rename_i t u i es r w;cases a:(Nat.beq aM t&&Nat.beq u e&&Nat.beq i sz&&(Nat.beq len es.length||(r&&Nat.ble len es.length))&&Nat.ble (Nat.mul (Nat.add len ys.length) bytes) 1099511627776&&Nat.ble (Nat.add len ys.length) 1099511627776) with
   |false=>rw[a] at h;simp at h
   |true=>rw[a] at h;simp only[lR,O5,pV] at h;obtain⟨rfl,rfl⟩:=h;simp only[Hi,IY,dS] at a;obtain⟨⟨⟨⟨⟨c1,j⟩,l⟩,o⟩,z⟩,A⟩:=a;have B:(len+ys.length)*bytes<=1099511627776:=pn z;have C:len+ys.length<=1099511627776:=pn A;have p:len=es.length\/r=true/\len<=es.length:=o.imp id (λh=>⟨h.1,pn h.2⟩);simp only[w,oe,lX,pj,tb];rw[y1 ⟨c1,j,l,p,B,C⟩];simp[bi,hR,oe,lX,pj,mB]
  ·cases h
 ·rename_i i es ys b c;rw[b];simp only[bi,gG,Kq c,tb];cases a:(Nat.beq i sz&&Nat.ble 1 ys.length&&Nat.ble (Nat.mul (Nat.add es.length ys.length) bytes) 1099511627776&&Nat.ble (Nat.add es.length ys.length) 1099511627776) with
  |false=>rw[a] at h;simp at h
  |true=>rw[a] at h;simp only[lR,O5,pV] at h;obtain⟨rfl,rfl⟩:=h;simp only[Hi,IY] at a;obtain⟨⟨⟨c1,j⟩,l⟩,o⟩:=a;have g:0<ys.length:=pn j;have D:(es.length+ys.length)*bytes<=1099511627776:=pn l;have p:es.length+ys.length<=1099511627776:=pn o;rw[y1 ⟨c1,g,D,p⟩];simp[bi,hR,oe,lX,pj,mB,xi]
 ·cases h
theorem ai9(l n:Nat):km (uK l n)=lc (e7 l n):=by
 unfold lc;rw[pX];induction l with
 |zero=>rfl
 |succ l a=>
  show km ([.V .u8 (Nat.add 18446744073709551616 (Nat.mod (Nat.div n (Nat.pow 256 l)) 256))]::uK l n)=_;rw[mB,mG,<-mB,a];simp only[gR,mG,gG,bi,intOf];congr 3;have b:Nat.mod (Nat.div n (Nat.pow 256 l)) 256=n/256^l%256:=rfl;have c:(UInt8.ofNat (n/256^l)).toNat=n/256^l%256:=by simp
  rw[b,c];congr 1;show((18446744073709551616+n/256^l%256:Nat):Int)-18446744073709551616=_;omega
theorem aBx[Tok]{a:dA}(h:bi y= .a0 a):Ae y=true:=by
 cases y<;>simp[bi,i0] at h
 ·rfl
 ·rename_i i;have:=Tok.ou i;rw[h] at this;cases this
theorem asw{s x:α}{l:Nat}(o:ev x= .s l n)(c:Ae (ev s)=false)(h:p8 ob d e 1 bytes (ev s) (.aQ 1 (uK l n)) as0=some (v,us)):
 b6 (λx=>bi (ev x)) (λk=>eJ (ob k)) d (.mM e bytes s x as0)=some (bi v,us.map hR):=by
 have q:=X0 (α:=an) (ev:=λx=>x) (s:=ev s) (x:= .aQ 1 (uK l n)) h;rw[<-q];simp only[b6,o,bi,iZ,ai9,w6];have g:∀i,bi (ev s)≠ .a0 i:=λi e=>by rw[aBx e] at c;cases c
 generalize bi (ev s)=p at g;generalize e7 l n=b;have j:=Db b;split
 ·rename_i r a;cases a;simp only[j]
 ·rename_i k aM len r a;cases a;simp only[j]
 ·rename_i aS cZ;split
  ·rename_i ys a;exact absurd rfl (aS b rfl)
  ·rename_i k aM len ys a;exact absurd rfl (cZ k aM len b rfl)
  ·exact absurd rfl (g _)
  ·rfl
theorem alf{r:ds α}(h:oS ev ob d r=some (v,us)):b6 (λx=>bi (ev x)) (λk=>eJ (ob k)) d r=some (bi v,us.map hR):=by
 cases r with
 |qg x=>cases h;rfl
 |load isAgg n a=>obtain⟨g,rfl⟩:=kg h;exact auk g
 |store n a x=>exact amC h
 |append e sz bytes s x as0=>exact X0 h
 |mM e bytes s x as0=>
  simp only[oS] at h;split at h
  ·rename_i l n I;cases S:Ae (ev s) with
   |true=>rw[S] at h;cases h
   |false=>rw[S] at h;exact asw I S h
  ·cases h
 |pick c a b=>
  obtain⟨g,rfl⟩:=kg h;unfold Ma at g;simp only[b6];split at g
  ·rename_i u;cases g;simp only[u,bi];rfl
  ·rename_i u;cases g;simp only[u,bi];rfl
  ·cases g
 |alloc t zero=>simp only[oS,O5,pV] at h;obtain⟨rfl,rfl⟩:=h;simp[b6,bi,hR,oe,lX,pj,xi,AA]
 |box t x=>
  simp only[oS] at h;split at h
  ·rename_i cs O;cases h;simp[b6,Fz O,bi,hR,oe,lX,pj,xi]
  ·cases h
 |build zero ps=>
  simp only[oS] at h;split at h
  ·rename_i cs O;cases h;have:=aa6 O;rw[AA,RO] at this;simp[b6,this,bi]
  ·cases h
 |m4 e sz zero len ps as0=>
  simp only[oS] at h;split at h
  ·rename_i es T;cases h;have:=RG T;rw[Uu,mB,nh,AA] at this;simp only[b6,this,NL,bi,xi,LZ,List.map_flatMap,mG,fq,hR,oe,lX,pj];congr 3
   ·congr 1;funext q;exact J9 ob (ev q.2)
  ·cases h
 |qj x=>obtain⟨g,rfl⟩:=kg h;unfold KO at g;simp only[b6];split at g<;>first|(rename_i u;cases g;simp only[u,bi];rfl)|cases g
 |qo W x y=>obtain⟨g,rfl⟩:=kg h;obtain⟨a,b,z,D,G,H,L⟩:=aBS g;simp[b6,D,G,H,L]
 |pB n sz x i=>
  obtain⟨g,rfl⟩:=kg h;unfold ov at g;simp only[b6];split at g
  ·rename_i k s off Q m I hi;cases j:(Nat.ble 18446744073709551616 m&&Nat.ble (Nat.succ (Nat.sub m 18446744073709551616)) n) with
   |false=>rw[j] at g;cases g
   |true=>rw[j] at g;simp only[lR,O5] at g;subst g;simp only[Hi] at j;have c1:18446744073709551616<=m:=pn j.1;have c2:m-18446744073709551616+1<=n:=pn j.2;obtain⟨D,G⟩:=vG c1;simp only[I,hi,bi];rw[y1 ⟨D,by unfold intOf;omega⟩,G];rfl
  ·cases g
 |e0 W x y=>obtain⟨g,rfl⟩:=kg h;obtain⟨a,b,z,D,G,H,L⟩:=Qn g;simp[b6,D,G,H,L]
 |bits W x y=>obtain⟨g,rfl⟩:=kg h;obtain⟨a,b,z,D,G,H,L⟩:=Qn g;simp[b6,D,G,H,L]
 |p1 neg x y=>
  obtain⟨g,rfl⟩:=kg h;unfold Q4 at g;simp only[b6];split at g
  ·rename_i a b C E;cases g;simp only[C,E,bi];rfl
  ·cases g
 |qn neg x y=>
  obtain⟨g,rfl⟩:=kg h;unfold HH at g;simp only[b6];split at g
  ·rename_i a n b m a' n' b' m' C E;cases g;simp only[C,E,bi,gG,yi];rfl
  ·cases g
 |pK neg x=>obtain⟨g,rfl⟩:=kg h;unfold Kj at g;simp only[b6];split at g<;>first|(rename_i u;cases g;simp only[u,bi,i0];rfl)|cases g
 |ext x i=>
  obtain⟨g,rfl⟩:=kg h;unfold G5 at g;simp only[b6];split at g
  ·cases g
  ·rename_i vs X u;simp only[u,bi];split
   ·rename_i r F;exfalso;cases vs with
    |nil=>simp[gG] at F
    |cons y q=>simp only[gG,aG.a0.injEq,kP] at F;exact X _ (by rw[ahE F.1])
   ·rename_i c0 _ F;cases F;simp only[aiP,g,NL];rfl
   ·rename_i a3;exact absurd rfl (a3 _)
  ·cases g
 |p5 isAgg off n x=>
  obtain⟨g,rfl⟩:=kg h;unfold Mf at g;simp only[b6];split at g
  ·rename_i cs u;simp only[u,bi,Bi g,NL];rfl
  ·cases g
 |p6 o x=>obtain⟨g,rfl⟩:=kg h;unfold Q2 at g;simp only[b6];split at g<;>first|(rename_i u;cases g;simp only[u,bi];rfl)|cases g
 |len c3 x=>
  obtain⟨g,rfl⟩:=kg h;unfold Qd at g;simp only[b6];split at g
  ·rename_i l n u;cases g;simp only[u,bi,xK,intOf];congr 4;simp only[Ct];omega
  ·rename_i u;cases g;simp only[u,bi,i0,intOf];rfl
  ·rename_i sz es u;cases g;simp only[u,bi,tb,intOf];congr 4;simp only[Ct];omega
  ·rename_i k s off len u;cases g;simp only[u,bi,intOf];congr 4;simp only[Ct];omega
  ·cases g
 |nC W x=>
  obtain⟨g,rfl⟩:=kg h;unfold Ee at g;simp only[b6];split at g
  ·rename_i a u;split at g
   ·cases g;simp only[u,bi,EB];rfl
   ·cases g
  ·split at g
   ·rename_i a C;rw[vC] at g;obtain⟨z,D,G⟩:=g;simp[MR C,D,Lk G]
   ·cases g
 |p4 k x=>
  obtain⟨g,rfl⟩:=kg h;unfold hs at g;simp only[b6];split at g
  ·rename_i k' n u;cases j:lr k n with
   |true=>rw[j] at g;cases g;simp only[u,bi,MJ j];rfl
   |false=>rw[j] at g;simp only[cond_false] at g;simp only[u,bi,Lk g];rfl
  ·cases g
 |oQ x=>
  obtain⟨g,rfl⟩:=kg h;unfold In at g;simp only[b6];split at g
  ·rename_i es T;split at g
   ·rename_i l Z;cases g;have a4:∀(es:aY) (l:List Nat),F9 es=some l->ui (km es)=some (l.map UInt8.ofNat):=by
     intro es;induction es with
     |nil=>intro l h;cases h;simp[km,ui]
     |cons e r a5=>
      intro l h;unfold F9 at h;split at h
      ·rename_i F;cases F
      ·rename_i n r' F;cases F;cases j:Nat.ble 18446744073709551616 n with
       |false=>rw[j] at h;simp at h
       |true=>
        rw[j] at h;simp only[lR] at h;split at h
        ·rename_i l' bd;cases h;have A:=vG (pn j);simp only[km,gG,bi,ui,a5 l' bd,NL,mG,A.2];rfl
        ·cases h
      ·cases h
    simp only[Kq T,h9,a4 es l Z,NL,bi,e7,fq];have:l.length=(l.map UInt8.ofNat).length:=by simp
    rw[this,HZ]
   ·cases g
  ·cases g
 |kV bs x y=>
  obtain⟨g,rfl⟩:=kg h;unfold pR at g;simp only[b6];split at g
  ·rename_i k a k' b C E;cases j:vY k k' with
   |false=>rw[j] at g;simp at g
   |true=>
    rw[j] at g;have e:=V3 j;subst e;simp only[lR,O5] at g;subst g;simp only[C,E,bi,w6];have bx:∀a b:Nat,Nat.blt a b=decide (a<b):=λa b=>by rw[gK];simp[wo]
    simp only[bx,fq];congr 4;cases bs
    ·simp only[cond_false,Nn,st];by_cases P:b<a
     ·rw[y1 (by unfold intOf;omega)];simp[P]
     ·rw[Ca (by unfold intOf;omega)];simp[P]
    ·simp only[lR,w6];by_cases P:a<b
     ·rw[y1 (by unfold intOf;omega)];simp[P]
     ·rw[Ca (by unfold intOf;omega)];simp[P]
  ·cases g
 |qa f ar9=>
  obtain⟨g,rfl⟩:=kg h;unfold FF at g;simp only[b6];split at g
  ·rename_i u;cases g;have:ar9.length=0:=by simpa using oT List.length u
   rw[y1 this];simp[bi]
  ·rename_i X;cases j:P9 (ar9.map ev) with
   |false=>rw[j] at g;simp at g
   |true=>
    rw[j] at g;simp only[lR,O5] at g;subst g;have Z:¬ar9.length=0:=by intro e;exact X (by rw[JE.1 e];rfl)
    have hk:Je (ar9.map λx=>bi (ev x))=true:=by
     simp only[P9,Hi,M2,pL,yd] at j;simp only[Je,Hi,M2,pL,yd];refine⟨?_,?_⟩
     ·rintro p ⟨x,I,rfl⟩;have:=j.1 (ev x) ⟨x,I,rfl⟩;cases R:ev x with
      |bu w=>
       rw[R] at this;unfold QZ at this;split at this
       ·rename_i F;cases F
       ·rename_i F;cases F;simp[bi,Fm]
       ·cases this
      |bn=>simp[bi,Fm]
      |_=>rw[R] at this;simp[QZ] at this
     ·obtain⟨p,⟨x,I,rfl⟩,B⟩:=j.2;refine⟨_,⟨x,I,rfl⟩,?_⟩;cases R:ev x with
      |bn=>simp[bi]
      |_=>rw[R] at B;simp at B
    rw[Ca Z,y1 hk];simp only[bi,lm,kW,fq];rfl
 |p9 x lo hi=>
  obtain⟨g,rfl⟩:=kg h;unfold Jj at g;simp only[b6];split at g
  ·rename_i l n u;split at g
   ·rename_i a b C E;cases j:(Nat.ble a b&&Nat.ble b l) with
    |false=>rw[j] at g;simp at g
    |true=>rw[j] at g;simp only[lR,O5] at g;subst g;simp only[Hi] at j;have A:=pn j.1;have B:=pn j.2;simp only[u,bi,uf C,xK,uf E];rw[y1 ⟨A,B⟩,aAl l n a b A B,<-aAp];rfl
   ·cases g
  ·cases g
 |o9 sz x lo hi=>
  obtain⟨g,rfl⟩:=kg h;unfold z0 at g;simp only[b6];split at g
  ·rename_i J es u;split at g
   ·rename_i a b C E;cases j:(Nat.beq J sz&&Nat.ble a b&&Nat.ble b es.length) with
    |false=>rw[j] at g;simp at g
    |true=>rw[j] at g;simp only[lR,O5] at g;subst g;simp only[Hi,IY] at j;have A:=pn j.1.2;have B:=pn j.2;simp only[u,bi,uf C,tb,uf E];rw[y1 ⟨j.1.1,A,B⟩,Ir,QF];rfl
   ·cases g
  ·rename_i k s off len u;split at g
   ·rename_i a b M e J es as0 C E N;cases j:(Nat.beq s M&&Nat.beq J sz&&Nat.ble a b&&Nat.ble b len) with
    |false=>rw[j] at g;simp at g
    |true=>rw[j] at g;simp only[lR,O5] at g;subst g;simp only[Hi,IY] at j;have A:=pn j.1.2;have B:=pn j.2;simp only[u,bi,uf C,uf E,N,lX];rw[y1 ⟨j.1.1.1,j.1.1.2,A,B⟩];rfl
   ·cases g
  ·rename_i u;split at g
   ·rename_i C E;cases g;simp only[u,bi,i0,uf C,uf E];rfl
   ·cases g
  ·cases g
 |ji sz x i=>
  obtain⟨g,rfl⟩:=kg h;unfold BD at g;simp only[b6];split at g
  ·rename_i J es k n u hi;cases j:(Nat.beq J sz&&Nat.ble 18446744073709551616 n) with
   |false=>rw[j] at g;simp at g
   |true=>
    rw[j] at g;simp only[lR] at g;simp only[Hi,IY] at j;have A:=vG (pn j.2);split at g
    ·rename_i cs O;cases g;have cc:es[n-18446744073709551616]? =some cs:=O;simp only[u,hi,bi,A.2,Pg,cc,NL];rw[y1 ⟨j.1,A.1⟩];rfl
    ·cases g
  ·rename_i k s off len Q n u hi;split at g
   ·rename_i M e J es as0 N;cases j:(Nat.beq s M&&Nat.beq J sz&&Nat.ble 18446744073709551616 n&&Nat.blt (Nat.sub n 18446744073709551616) len) with
    |false=>rw[j] at g;simp at g
    |true=>
     rw[j] at g;simp only[lR,O5] at g;subst g;simp only[Hi,IY] at j;have A:=vG (pn j.1.2);have B:n-18446744073709551616<len:=by have:=j.2;simpa[wo] using this
     have K:intOf n<(len:Int):=by have:=A.1;have:=A.2;omega
     simp only[u,hi,bi,N,lX];rw[y1 ⟨j.1.1.1,j.1.1.2,A.1,K⟩,A.2];rfl
   ·cases g
  ·cases g
 |pJ x i=>
  obtain⟨g,rfl⟩:=kg h;unfold HT at g;simp only[b6];split at g
  ·rename_i l n k m u hi;cases j:(Nat.ble 18446744073709551616 m&&Nat.blt (Nat.sub m 18446744073709551616) l) with
   |false=>rw[j] at g;simp at g
   |true=>
    rw[j] at g;simp only[lR,O5] at g;subst g;simp only[Hi] at j;have A:=vG (pn j.1);have B:m-18446744073709551616<l:=by have:=j.2;simpa[wo] using this
    simp only[u,hi,bi,pX];rw[y1 A.1,A.2,rP _ _ _ B];simp only[NL,fq];congr 4;rw[sp];simp only[intOf,Ct];show((n/256^(l-1-(m-18446744073709551616)) %256:Nat):Int)=((18446744073709551616+n/256^(l-1-(m-18446744073709551616)) %256:Nat):Int)-18446744073709551616;omega
  ·cases g
 |oJ e sz bytes zero l c=>
  simp only[oS] at h;unfold nf at h;simp only[b6];split at h
  ·rename_i a b C E;cases j:(Nat.ble 18446744073709551616 a&&Nat.ble a b&&Nat.ble (Nat.mul (Nat.sub b 18446744073709551616) bytes) 1099511627776&&Nat.ble (Nat.sub b 18446744073709551616) 1099511627776) with
   |false=>rw[j] at h;simp at h
   |true=>
    rw[j] at h;simp only[lR,O5,pV] at h;obtain⟨rfl,rfl⟩:=h;simp only[Hi] at j;have g:=pn j.1.1.1;have A:=pn j.1.1.2;have B:(b-18446744073709551616)*bytes<=1099511627776:=pn j.1.2;have K:b-18446744073709551616<=1099511627776:=pn j.2;have D:=vG g;have G:=vG (y4 g A);have H:intOf b=((b-18446744073709551616:Nat):Int):=by have:=G.1;have:=G.2;omega
    have L:intOf a<=intOf b:=by unfold intOf;omega
    have ar:intOf b*(bytes:Int)<=1099511627776:=by rw[H,<-oj];generalize (b-18446744073709551616)*bytes=z at B;omega
    have a1:intOf b<=1099511627776:=by rw[H];generalize b-18446744073709551616=z at K;omega
    simp only[C,E,bi];rw[y1 ⟨D.1,L,ar,a1⟩,D.2];simp only[mG,fq,hR,lX,xi,mB,nh,AA,bi];rfl
  ·cases h
 |pF x=>
  obtain⟨g,rfl⟩:=kg h;unfold vo at g;simp only[b6];split at g
  ·rename_i u;cases g;rw[u];rfl
  ·cases g
 |oy e sz bytes zero sl x as0=>
  simp only[oS] at h;unfold ua at h;simp only[b6];split at h
  ·rename_i m cl I;cases j:(Nat.ble 18446744073709551617 m&&Nat.ble (Nat.mul (Nat.sub m 18446744073709551616) bytes) 1099511627776&&Nat.ble (Nat.sub m 18446744073709551616) 1099511627776) with
   |false=>rw[j] at h;simp at h
   |true=>
    rw[j] at h;simp only[lR,O5,pV] at h;obtain⟨rfl,rfl⟩:=h;simp only[Hi] at j;have g:=pn j.1.1;have B:(m-18446744073709551616)*bytes<=1099511627776:=pn j.1.2;have K:m-18446744073709551616<=1099511627776:=pn j.2;have D:=vG (y4 (by omega) g);have H:intOf m=((m-18446744073709551616:Nat):Int):=by have:=D.1;have:=D.2;omega
    have ar:intOf m*(bytes:Int)<=1099511627776:=by rw[H,<-oj];generalize (m-18446744073709551616)*bytes=z at B;omega
    have a1:intOf m<=1099511627776:=by rw[H];generalize m-18446744073709551616=z at K;omega
    have cn:0<intOf m:=by rw[H];omega
    simp only[cl,I,bi,i0];rw[y1 ⟨cn,ar,a1⟩,D.2];simp only[mG,fq,hR,lX,xi,mB,nh,AA,bi];rfl
  ·cases h
 |oO e sz zero x=>
  simp only[oS] at h;unfold zF at h;simp only[b6];split at h
  ·rename_i u;cases h;rw[u];rfl
  ·rename_i k s off len u;split at h
   ·rename_i M e' J es N;cases j:(Nat.beq s M&&Nat.beq e' e&&Nat.beq J sz&&Nat.ble (Nat.add off len) es.length) with
    |false=>rw[j] at h;simp at h
    |true=>rw[j] at h;simp only[lR,O5,pV] at h;obtain⟨rfl,rfl⟩:=h;simp only[Hi] at j;have g:=dp j.1.1.1;have A:=dp j.1.1.2;have B:=dp j.1.2;have K:off+len<=es.length:=pn j.2;subst g A B;simp only[u,bi,N,lX];rw[y1 ⟨trivial,trivial,trivial,by rw[mB,ER];exact K⟩];simp only[mG,fq,hR,lX,mB,LZ,iz,io,nh,AA,bi];rfl
   ·cases h
  ·cases h
 |oF n x=>
  simp only[oS] at h;unfold v7 at h;simp only[b6];split at h
  ·rename_i k s u;split at h
   ·rename_i M cs N;cases j:(Nat.beq s M&&Nat.beq cs.length n&&Nat.ble n 1048576&&cs.all w3) with
    |false=>rw[j] at h;simp at h
    |true=>
     rw[j] at h;simp only[lR,O5,pV] at h;obtain⟨rfl,rfl⟩:=h;simp only[Hi] at j;have g:=dp j.1.1.1;have A:=dp j.1.1.2;have B:n<=1048576:=pn j.1.2;subst g;have K:∀q∈cs,∃Q m,q= .V Q m:=λq a2=>by have:=M2.1 j.2 q a2;cases q<;>first|exact⟨_,_,rfl⟩|cases this
     have h5:(gG cs).flatMap aG.key=[]:=by rw[lm,n7];intro q a2;obtain⟨q',cp,rfl⟩:=yd.1 a2;obtain⟨Q,m,rfl⟩:=K q' cp;rfl
     simp only[u,bi,N,oe];rw[y1 ⟨trivial,by rw[lm,ER];exact A,B,h5⟩];simp only[mG,fq,hR,eJ,mB,lm,kW,bi];rfl
   ·cases h
  ·cases h
 |_=>cases h
end
end
end
section
variable{b k:Nat}
section
variable[Tok]
def as3{α a:Type}(f:α->a)(x:α):a:=f x
noncomputable def Nk{α:Type}(l:List α):List α->List α:= @List.rec α (λ_=>List α->List α) (λarZ=>arZ) (λx _ a arZ=>as3 a (x::arZ)) l
noncomputable def nx{α:Type}(l:List α):List α:=Nk l []
theorem Vn{α:Type}:∀(l arZ:List α),Nk l arZ=l.reverse++arZ
 |[],_=>rfl
 |x::r,arZ=>by show Nk r (x::arZ)=_;rw[Vn r];simp
theorem qL{α:Type}(l:List α):nx l=l.reverse:=by unfold nx;rw[Vn,List.append_nil]
inductive e9 where
 |ae (o:dM)
 |kr (s e sz:Nat) (rs:aY) (as0:Bool)
noncomputable def e9.ag(s:e9):dM:= @e9.rec (λ_=>dM) (λo=>o) (λs e sz rs as0=> .az s e sz (nx rs) as0) s
def z8:e9:= .ae (.ax 0)
inductive jO where
 |nil
 |cons (k:Nat) (o:e9) (r:jO)
inductive b1 where
 |nil
 |cons (b:Nat) (l:jO) (r:b1)
noncomputable def jO.get(l:jO)(k:Nat):e9:=
 @jO.rec (λ_=>e9) z8 (λa o _ g=> @Bool.rec (λ_=>e9) g o (Nat.beq a k)) l
noncomputable def jO.w7(l:jO)(k:Nat):jO:=
 @jO.rec (λ_=>jO) .nil (λa o r g=> @Bool.rec (λ_=>jO) (.cons a o g) r (Nat.beq a k)) l
noncomputable def b1.get(l:b1)(k:Nat):e9:=
 @b1.rec (λ_=>e9) z8 (λb l _ g=> @Bool.rec (λ_=>e9) g (l.get k) (Nat.ble b k)) l
noncomputable def b1.set(l:b1)(k:Nat)(o:e9):b1:=
 @b1.rec (λ_=>b1) (.cons 0 (.cons k o .nil) .nil) (λb l r g=> @Bool.rec (λ_=>b1) (.cons b l g) (.cons b (.cons k o (l.w7 k)) r) (Nat.ble b k)) l
noncomputable def b1.drop(l:b1)(b:Nat):b1:=
 @b1.rec (λ_=>b1) .nil (λa l r g=> @Bool.rec (λ_=>b1) (.cons a l r) g (Nat.ble b a)) l
theorem uI{a:Nat}(h:b≠a):Nat.beq a b=false:=by
 cases c:Nat.beq a b with
 |true=>exact absurd (dp c).symm h
 |false=>rfl
theorem D1(a:Nat):Nat.beq a a=true:=by simp
theorem jO.V0:∀(l:jO) (k j:Nat),j≠k->(l.w7 k).get j=l.get j
 | .nil,_,_,_=>rfl
 | .cons a o r,k,j,h=>by
   show jO.get (@Bool.rec (λ_=>jO) (.cons a o (r.w7 k)) r (Nat.beq a k)) j= @Bool.rec (λ_=>e9) (r.get j) o (Nat.beq a j);cases c:Nat.beq a k with
   |true=>have e:=dp c;subst e;rw[uI h]
   |false=>show @Bool.rec (λ_=>e9) ((r.w7 k).get j) o (Nat.beq a j)=_;rw[jO.V0 r k j h]
theorem b1.zN:∀(l:b1) (k j:Nat) (o:e9),(l.set k o).get j=if j=k then o else l.get j
 | .nil,k,j,o=>by
   show @Bool.rec (λ_=>e9) z8 (@Bool.rec (λ_=>e9) z8 o (Nat.beq k j)) (Nat.ble 0 j)=_;have c:Nat.ble 0 j=true:=gz (xW j);rw[c];by_cases e:j=k
   ·subst e;rw[D1,y1 rfl]
   ·rw[uI e,Ca e];rfl
 | .cons b l r,k,j,o=>by
   show b1.get (@Bool.rec (λ_=>b1) (.cons b l (r.set k o)) (.cons b (.cons k o (l.w7 k)) r) (Nat.ble b k)) j=if j=k then o else @Bool.rec (λ_=>e9) (r.get j) (l.get j) (Nat.ble b j);cases a:Nat.ble b k with
   |true=>
    show @Bool.rec (λ_=>e9) (r.get j) (@Bool.rec (λ_=>e9) ((l.w7 k).get j) o (Nat.beq k j)) (Nat.ble b j)=_;by_cases e:j=k
    ·subst e;rw[a,y1 rfl,D1]
    ·rw[uI e,Ca e];show @Bool.rec (λ_=>e9) (r.get j) ((l.w7 k).get j) (Nat.ble b j)=_;rw[jO.V0 l k j e]
   |false=>
    show @Bool.rec (λ_=>e9) ((r.set k o).get j) (l.get j) (Nat.ble b j)=_;rw[b1.zN r k j o];by_cases e:j=k
    ·subst e;simp[a]
    ·rw[Ca e,Ca e]
theorem b1.rB(b:Nat):∀(l:b1) (k:Nat),k<b->(l.drop b).get k=l.get k
 | .nil,_,_=>rfl
 | .cons a l r,k,h=>by
   show b1.get (@Bool.rec (λ_=>b1) (.cons a l r) (r.drop b) (Nat.ble b a)) k= @Bool.rec (λ_=>e9) (r.get k) (l.get k) (Nat.ble a k);cases c:Nat.ble b a with
   |true=>
    have g:b<=a:=pn c;have d:Nat.ble a k=false:=by
     cases e:Nat.ble a k with
     |true=>have:=pn e;omega
     |false=>rfl
    rw[d];exact b1.rB b r k h
   |false=>rfl
noncomputable def cE(ub:Nat)(l:b1):Nat->dM:=λk=> @Bool.rec (λ_=>dM) (.ax 0) (l.get k).ag (Nat.blt k ub)
theorem ic{ub:Nat}{l:b1}(h:k<ub:=by omega):cE ub l k=(l.get k).ag:=by unfold cE;rw[oW,decide_eq_true h]
theorem jz{ub:Nat}{l:b1}(h:ub<=k:=by omega):cE ub l k= .ax 0:=by unfold cE;rw[oW,decide_eq_false (Nat.not_lt.2 h)]
inductive aI where
 |mk (ub:Nat) (atf:b1) (dirty:List Nat)
noncomputable def aI.bh(h:aI):Nat:= @aI.rec (λ_=>Nat) (λu _ _=>u) h
noncomputable def aI.au(h:aI):b1:= @aI.rec (λ_=>b1) (λ_ s _=>s) h
noncomputable def aI.bQ(h:aI):List Nat:= @aI.rec (λ_=>List Nat) (λ_ _ d=>d) h
noncomputable def aI.aj(h:aI):Nat->dM:= @aI.rec (λ_=>Nat->dM) (λu s _=>cE u s) h
theorem aI.aki(h:aI):h.aj=cE h.bh h.au:=by cases h;rfl
noncomputable def aI.iQ(h:aI):Nat->Obj:=λk=>eJ (h.aj k)
noncomputable def aI.Bo(h:aI)(k:Nat):e9:= @aI.rec (λ_=>e9) (λu s _=> @Bool.rec (λ_=>e9) z8 (s.get k) (Nat.ble (Nat.succ k) u)) h
theorem aI.Hb(h:aI)(k:Nat):(h.Bo k).ag=h.aj k:=by
 cases h with
 |mk u s d=>show(@Bool.rec (λ_=>e9) z8 (s.get k) (Nat.blt k u)).ag= @Bool.rec (λ_=>dM) (.ax 0) (s.get k).ag (Nat.blt k u);cases Nat.blt k u<;>rfl
noncomputable def aI.eW(b:Nat)(h:aI)(k:Nat)(o:e9):aI:=
 @aI.rec (λ_=>aI) (λu s d=> .mk u (s.set k o) (@Bool.rec (λ_=>List Nat) d (k::d) (Nat.blt k b))) h
structure hT (b:Nat) (h h':aI):Prop where
 bh:h.bh<=h'.bh
 bQ:∀k∈h.bQ,k∈h'.bQ
 same:∀k,k<b->k∉h'.bQ->h'.aj k=h.aj k
theorem hT.refl{h:aI}:hT b h h:=⟨sm _,λ_ h=>h,λ_ _ _=>rfl⟩
theorem hT.trans{b:Nat}{h h' c:aI}(p:hT b h h')(q:hT b h' c):hT b h c:=
 ⟨y4 p.bh q.bh,λx a=>q.bQ x (p.bQ x a),λx a d=>(q.same x a d).trans (p.same x a (λhd=>d (q.bQ x hd)))⟩
theorem aI.tS{h:aI}{o:e9}(c:k<h.bh):(h.eW b k o).aj=dl h.aj k o.ag:=by
 cases h with
 |mk u s d=>
  have g:k<u:=c;funext j;show cE u (s.set k o) j=dl (cE u s) k o.ag j;simp only[dl];by_cases a:j<u
  ·rw[ic a,b1.zN,ic a];split<;>rfl
  ·have e:j≠k:=by omega
   rw[jz,Ca e,jz]
theorem aI.Tn{h:aI}{o:e9}(a:k<h.bh):(h.eW b k o).iQ=dl h.iQ k (eJ o.ag):=by funext j;show eJ ((h.eW b k o).aj j)=_;rw[aI.tS a];simp only[dl];split<;>rfl
theorem aI.qv{h:aI}{o:e9}:(h.eW b k o).bh=h.bh:=by cases h;rfl
theorem aI.adn{h:aI}{o:e9}(c:k<h.bh):hT b h (h.eW b k o):=by
 refine⟨by rw[aI.qv];exact sm _,λx a=>?_,λx a g=>?_⟩
 ·cases h with
  |mk u s d=>
   show x∈ @Bool.rec (λ_=>List Nat) d (k::d) (Nat.blt k b);cases Nat.blt k b with
   |true=>exact OJ _ a
   |false=>exact a
 ·rw[aI.tS c];have i:x≠k:=by
   intro e;subst e;apply g;cases h with
   |mk u s d=>show x∈ @Bool.rec (λ_=>List Nat) d (x::d) (Nat.blt x b);rw[oW,pl a];exact HO
  rw[ir _ _ i]
def xI(b:Nat)(us:eH)(h h':aI):Prop:=hT b h h'/\h'.iQ=c7 h.iQ (us.map hR)/\h'.bh=h.bh
end
end
section
variable{vs:aB} {x:an} {o:dM}
section
variable[Tok]
inductive aw where
 |ax
 |ok (res:an) (ub:Nat) (atf:b1) (dirty:List Nat)
abbrev jm:=an->eH->aw
def eO:Nat:=0
def dB:Nat:=eO
def cT:Nat:=dB
def n2:Nat:=cT
def acr:Nat:=n2
def mw:Nat:=acr
def l4:Nat:=mw
def gH:Nat:=l4
def ayp:Nat:=gH
def asf:Nat:=ayp
def gP:Nat:=asf
def aD6:Nat:=gP
def alp:Nat:=aD6
def alT:Nat:=alp
def axx:Nat:=alT
def Yb:Nat:=axx
def YK:Nat:=Yb
def HF:Nat:=YK
def Ie:Nat:=HF
def FJ:Nat:=Ie
def auU:Nat:=FJ
def aqm:Nat:=auU
def aiE:Nat:=aqm
def auT:Nat:=aiE
def JC:Nat:=auT
def asr:Nat:=JC
def aqH:Nat:=asr
def aAi:Nat:=aqH
def aBQ:Nat:=aAi
def azE:Nat:=aBQ
def vI:Nat:=azE
noncomputable def bf(c:Bool)(x y:aw):aw:= @Bool.rec (λ_=>aw) y x c
theorem dV{c:Bool}{x:aw}(h:bf c x .ax≠ .ax):c=true/\bf c x .ax=x:=by
 cases c
 ·exact absurd rfl h
 ·exact⟨rfl,rfl⟩
noncomputable def cS(a b:Bool):Bool:= @Bool.rec (λ_=>Bool) false b a
theorem jg(a b:Bool):cS a b=(a&&b):=by cases a<;>rfl
noncomputable def hM(a:Bool):Bool:= @Bool.rec (λ_=>Bool) true false a
theorem zu(a:Bool):hM a= !a:=by cases a<;>rfl
noncomputable def eF(n:Nat)(f:Nat->aw):aw:= @Nat.rec (λ_=>aw) (f 0) (λp _=>f (Nat.succ p)) n
theorem fd(n:Nat)(f:Nat->aw):eF n f=f n:=by cases n<;>rfl
section
variable{α:Type}
noncomputable def ea(l:List α):Nat:= @List.rec α (λ_=>Nat) 0 (λ_ _ n=>Nat.succ n) l
theorem gr:∀(l:List α),ea l=l.length
 |[]=>rfl
 |_::r=>by show Nat.succ (ea r)=_;rw[gr r];rfl
noncomputable def CW(l:List α):List α:= @List.rec α (λ_=>List α) [] (λ_ t _=>t) l
theorem adi(l:List α):CW l=l.tail:=by cases l<;>rfl
noncomputable def lK(n:Nat)(l:List α):List α:= @Nat.rec (λ_=>List α) l (λ_ r=>CW r) n
theorem tB:∀(n:Nat) (l:List α),lK n l=l.drop n
 |0,l=>rfl
 |n+1,l=>by show CW (lK n l)=_;rw[tB n l,adi,List.tail_drop]
noncomputable def ai5(l:List α)(f:α->aw):aw:= @List.rec α (λ_=>aw) .ax (λh _ _=>f h) l
noncomputable def wr(n:Nat)(l:List α)(f:α->aw):aw:=ai5 (lK n l) f
theorem Gc{n:Nat}{l:List α}{f:α->aw}(h:wr n l f≠ .ax):∃x,l[n]? =some x/\wr n l f=f x:=by
 unfold wr at h ⊢;rw[tB] at h ⊢;cases hd:l.drop n with
 |nil=>rw[hd] at h;exact absurd rfl h
 |cons x r=>refine⟨x,?_,rfl⟩;have:=lh (xs:=l) (i:=n) (j:=0);rw[hd] at this;simpa using this.symm
noncomputable def sP(n:Nat)(l:List α):List α:=
 @Nat.rec (λ_=>List α->List α) (λ_=>[]) (λ_ a l=> @List.rec α (λ_=>List α) [] (λh t _=>h::a t) l) n l
theorem Jn:∀(n:Nat) (l:List α),sP n l=l.take n
 |0,_=>rfl
 |_+1,[]=>rfl
 |n+1,x::r=>by show x::sP n r=_;rw[Jn n r];rfl
noncomputable def Kc(new cs:List α):List α:= @List.rec α (λ_=>List α->List α) (λcs=>cs) (λx _ a cs=>x::a (CW cs)) new cs
theorem adH:∀(new cs:List α),Kc new cs=new++cs.drop new.length
 |[],cs=>rfl
 |x::r,cs=>by show x::Kc r (CW cs)=_;rw[adH r,adi,List.drop_tail];rfl
noncomputable def ug(off:Nat)(cs new:List α):List α:=
 @Nat.rec (λ_=>List α->List α) (λcs=>Kc new cs) (λ_ a cs=> @List.rec α (λ_=>List α) new (λh t _=>h::a t) cs) off cs
theorem Ah:∀(off:Nat) (cs new:List α),ug off cs new=cs.take off++new++cs.drop (off+new.length)
 |0,cs,new=>by show Kc new cs=_;rw[adH];simp
 |off+1,[],new=>by show new=_;simp
 |off+1,x::r,new=>by show x::ug off r new=_;rw[Ah off r new,show off+1+new.length=(off+new.length)+1 by omega];rfl
noncomputable def lG(l:List α)(k:List α->aw):aw:= @List.rec α (λ_=>(List α->aw)->aw) (λk=>k []) (λh _ a k=>a λr=>k (h::r)) l k
theorem lu:∀(l:List α) (k:List α->aw),lG l k=k l
 |[],_=>rfl
 |x::r,k=>by show lG r (λr=>k (x::r))=_;rw[lu r]
noncomputable def aA(a b:List α):List α:= @List.rec α (λ_=>List α) b (λh _ c=>h::c) a
theorem mJ:∀(a b:List α),aA a b=a++b
 |[],_=>rfl
 |x::r,b=>by show x::aA r b=_;rw[mJ r b];rfl
noncomputable def tO(l:List α)(i:Nat)(x:α):List α:=
 @Nat.rec (λ_=>List α->List α) (λl=> @List.rec α (λ_=>List α) [] (λ_ t _=>x::t) l) (λ_ a l=> @List.rec α (λ_=>List α) [] (λh t _=>h::a t) l) i l
theorem OZ:∀(i:Nat) (l:List α) (x:α),tO l i x=l.set i x
 |0,[],_=>rfl
 |0,_::_,_=>rfl
 |_+1,[],_=>rfl
 |i+1,y::r,x=>by show y::tO r i x=_;rw[OZ i r x];rfl
noncomputable def cG(n:Nat)(x:α):List α:= @Nat.rec (λ_=>List α) [] (λ_ r=>x::r) n
theorem x3(n:Nat)(x:α):cG n x=List.replicate n x:=by
 induction n with
 |zero=>rfl
 |succ n a=>show x::cG n x=_;rw[a];rfl
end
noncomputable def jR(x:an)(f:IntKind->Nat->aw):aw:=
 @an.rec (λ_=>aw) (λ_=>PUnit) (λ_=>PUnit) .ax (λ_=> .ax) f (λ_ _=> .ax) .ax (λ_=> .ax) (λ_ _=> .ax) (λ_ _=> .ax) (λ_ _ _=> .ax) (λ_ _ _=> .ax) (λ_ _ _=> .ax) (λ_ _ _ _=> .ax) (λ_ _ _ _=> .ax) (λ_ _=> .ax) (λ_ _ _=> .ax) (λ_=> .ax) PUnit.unit (λ_ _ _ _=>PUnit.unit) PUnit.unit (λ_ _ _ _=>PUnit.unit) x
noncomputable def vN(x:an)(f:Bool->aw):aw:=
 @an.rec (λ_=>aw) (λ_=>PUnit) (λ_=>PUnit) .ax f (λ_ _=> .ax) (λ_ _=> .ax) .ax (λ_=> .ax) (λ_ _=> .ax) (λ_ _=> .ax) (λ_ _ _=> .ax) (λ_ _ _=> .ax) (λ_ _ _=> .ax) (λ_ _ _ _=> .ax) (λ_ _ _ _=> .ax) (λ_ _=> .ax) (λ_ _ _=> .ax) (λ_=> .ax) PUnit.unit (λ_ _ _ _=>PUnit.unit) PUnit.unit (λ_ _ _ _=>PUnit.unit) x
noncomputable def k6(x:an)(f:Nat->Nat->aw):aw:=
 @an.rec (λ_=>aw) (λ_=>PUnit) (λ_=>PUnit) .ax (λ_=> .ax) (λ_ _=> .ax) f .ax (λ_=> .ax) (λ_ _=> .ax) (λ_ _=> .ax) (λ_ _ _=> .ax) (λ_ _ _=> .ax) (λ_ _ _=> .ax) (λ_ _ _ _=> .ax) (λ_ _ _ _=> .ax) (λ_ _=> .ax) (λ_ _ _=> .ax) (λ_=> .ax) PUnit.unit (λ_ _ _ _=>PUnit.unit) PUnit.unit (λ_ _ _ _=>PUnit.unit) x
noncomputable def vd(x:an)(f:IntKind->Nat->aw)(g:Nat->Nat->aw):aw:=
 @an.rec (λ_=>aw) (λ_=>PUnit) (λ_=>PUnit) .ax (λ_=> .ax) f g .ax (λ_=> .ax) (λ_ _=> .ax) (λ_ _=> .ax) (λ_ _ _=> .ax) (λ_ _ _=> .ax) (λ_ _ _=> .ax) (λ_ _ _ _=> .ax) (λ_ _ _ _=> .ax) (λ_ _=> .ax) (λ_ _ _=> .ax) (λ_=> .ax) PUnit.unit (λ_ _ _ _=>PUnit.unit) PUnit.unit (λ_ _ _ _=>PUnit.unit) x
noncomputable def I3(x:an)(f:aB->aw):aw:=
 @an.rec (λ_=>aw) (λ_=>PUnit) (λ_=>PUnit) .ax (λ_=> .ax) (λ_ _=> .ax) (λ_ _=> .ax) .ax (λ_=> .ax) (λa _=>f a) (λ_ _=> .ax) (λ_ _ _=> .ax) (λ_ _ _=> .ax) (λ_ _ _=> .ax) (λ_ _ _ _=> .ax) (λ_ _ _ _=> .ax) (λ_ _=> .ax) (λ_ _ _=> .ax) (λ_=> .ax) PUnit.unit (λ_ _ _ _=>PUnit.unit) PUnit.unit (λ_ _ _ _=>PUnit.unit) x
noncomputable def Px(x:an)(f:aB->aw):aw:=
 @an.rec (λ_=>aw) (λ_=>PUnit) (λ_=>PUnit) .ax (λ_=> .ax) (λ_ _=> .ax) (λ_ _=> .ax) .ax (λ_=> .ax) (λ_ _=> .ax) (λa _=>f a) (λ_ _ _=> .ax) (λ_ _ _=> .ax) (λ_ _ _=> .ax) (λ_ _ _ _=> .ax) (λ_ _ _ _=> .ax) (λ_ _=> .ax) (λ_ _ _=> .ax) (λ_=> .ax) PUnit.unit (λ_ _ _ _=>PUnit.unit) PUnit.unit (λ_ _ _ _=>PUnit.unit) x
noncomputable def nE(x:an)(e:aB->Nat->aw)(f:Nat->Nat->Nat->aw)(g:Nat->Nat->Nat->Nat->aw):aw:=
 @an.rec (λ_=>aw) (λ_=>PUnit) (λ_=>PUnit) .ax (λ_=> .ax) (λ_ _=> .ax) (λ_ _=> .ax) .ax (λ_=> .ax) (λ_ _=> .ax) (λ_ _=> .ax) (λ_ _ _=> .ax) (λa b _=>e a b) f (λ_ _ _ _=> .ax) g (λ_ _=> .ax) (λ_ _ _=> .ax) (λ_=> .ax) PUnit.unit (λ_ _ _ _=>PUnit.unit) PUnit.unit (λ_ _ _ _=>PUnit.unit) x
noncomputable def qW(x:an)(z:aw)(f:Nat->aY->aw)(g:Nat->Nat->Nat->Nat->aw):aw:=
 @an.rec (λ_=>aw) (λ_=>PUnit) (λ_=>PUnit) .ax (λ_=> .ax) (λ_ _=> .ax) (λ_ _=> .ax) z (λ_=> .ax) (λ_ _=> .ax) (λ_ _=> .ax) (λa b _=>f a b) (λ_ _ _=> .ax) (λ_ _ _=> .ax) g (λ_ _ _ _=> .ax) (λ_ _=> .ax) (λ_ _ _=> .ax) (λ_=> .ax) PUnit.unit (λ_ _ _ _=>PUnit.unit) PUnit.unit (λ_ _ _ _=>PUnit.unit) x
noncomputable def ty(x:an)(z:aw)(f:Nat->aY->aw)(g:Nat->Nat->Nat->Nat->aw)(t:aB->aw):aw:=
 @an.rec (λ_=>aw) (λ_=>PUnit) (λ_=>PUnit) .ax (λ_=> .ax) (λ_ _=> .ax) (λ_ _=> .ax) z (λ_=> .ax) (λ_ _=> .ax) (λa _=>t a) (λa b _=>f a b) (λ_ _ _=> .ax) (λ_ _ _=> .ax) g (λ_ _ _ _=> .ax) (λ_ _=> .ax) (λ_ _ _=> .ax) (λ_=> .ax) PUnit.unit (λ_ _ _ _=>PUnit.unit) PUnit.unit (λ_ _ _ _=>PUnit.unit) x
noncomputable def Jx(vs:aB)(a:aw):aw:=
 @List.rec an (λ_=>aw) .ax (λy _ _=> @an.rec (λ_=>aw) (λ_=>PUnit) (λ_=>PUnit) .ax (λ_=>a) (λ_ _=>a) (λ_ _=>a) a (λ_=>a) (λ_ _=>a) (λ_ _=>a) (λ_ _ _=>a) (λ_ _ _=>a) (λ_ _ _=>a) (λ_ _ _ _=>a) (λ_ _ _ _=>a) (λ_ _=>a) (λ_ _ _=>a) (λ_=>a) PUnit.unit (λ_ _ _ _=>PUnit.unit) PUnit.unit (λ_ _ _ _=>PUnit.unit) y) vs
theorem aqF{a:aw}(h:Jx vs a≠ .ax):(∀r,vs≠ .undef::r)/\Jx vs a=a:=by
 cases vs with
 |nil=>exact absurd rfl h
 |cons y r=>cases y<;>first|exact absurd rfl h|exact⟨λ_ e=>(by cases e),rfl⟩
noncomputable def FN(vs:aB)(f:Nat->aY->aw):aw:=
 @List.rec an (λ_=>aw) .ax (λy r _=> @an.rec (λ_=>aw) (λ_=>PUnit) (λ_=>PUnit) (@List.rec an (λ_=>aw) .ax (λz q _=> @List.rec an (λ_=>aw) (qW z .ax f λ_ _ _ _=> .ax) (λ_ _ _=> .ax) q) r) (λ_=> .ax) (λ_ _=> .ax) (λ_ _=> .ax) .ax (λ_=> .ax) (λ_ _=> .ax) (λ_ _=> .ax) (λ_ _ _=> .ax) (λ_ _ _=> .ax) (λ_ _ _=> .ax) (λ_ _ _ _=> .ax) (λ_ _ _ _=> .ax) (λ_ _=> .ax) (λ_ _ _=> .ax) (λ_=> .ax) PUnit.unit (λ_ _ _ _=>PUnit.unit) PUnit.unit (λ_ _ _ _=>PUnit.unit) y) vs
theorem ao5{f:Nat->aY->aw}(h:FN vs f≠ .ax):∃sz es,vs=[.undef,.aQ sz es]/\FN vs f=f sz es:=by
 cases vs with
 |nil=>exact absurd rfl h
 |cons y r=>
  cases y<;>first|exact absurd rfl h|skip
  cases r with
  |nil=>exact absurd rfl h
  |cons z q=>
   cases q with
   |nil=>cases z<;>first|exact absurd rfl h|exact⟨_,_,rfl,rfl⟩
   |cons _ _=>exact absurd rfl h
noncomputable def nA(o:dM)(f:Nat->aB->aw):aw:= @dM.rec (λ_=>aw) (λ_=> .ax) f (λ_ _ _ _ _=> .ax) (λ_ _=> .ax) o
noncomputable def jQ(o:dM)(f:Nat->Nat->Nat->aY->Bool->aw):aw:= @dM.rec (λ_=>aw) (λ_=> .ax) (λ_ _=> .ax) f (λ_ _=> .ax) o
theorem qB{f:IntKind->Nat->aw}(h:jR x f≠ .ax):∃q n,x= .V q n/\jR x f=f q n:=by cases x<;>first|exact absurd rfl h|exact⟨_,_,rfl,rfl⟩
theorem Cc{f:Bool->aw}(h:vN x f≠ .ax):∃c,x= .a9 c/\vN x f=f c:=by cases x<;>first|exact absurd rfl h|exact⟨_,rfl,rfl⟩
theorem qE{f:Nat->Nat->aw}(h:k6 x f≠ .ax):∃l n,x= .s l n/\k6 x f=f l n:=by cases x<;>first|exact absurd rfl h|exact⟨_,_,rfl,rfl⟩
theorem H5{f:IntKind->Nat->aw}{g:Nat->Nat->aw}(h:vd x f g≠ .ax):(∃q n,x= .V q n/\vd x f g=f q n)\/(∃l n,x= .s l n/\vd x f g=g l n):=by cases x<;>first|exact absurd rfl h|exact .inl ⟨_,_,rfl,rfl⟩|exact .inr ⟨_,_,rfl,rfl⟩
theorem Wf{f:aB->aw}(h:I3 x f≠ .ax):∃cs,x= .agg cs/\I3 x f=f cs:=by cases x<;>first|exact absurd rfl h|exact⟨_,rfl,rfl⟩
theorem ap1{f:aB->aw}(h:Px x f≠ .ax):∃cs,x= .a0 cs/\Px x f=f cs:=by cases x<;>first|exact absurd rfl h|exact⟨_,rfl,rfl⟩
theorem yI{e:aB->Nat->aw}{f:Nat->Nat->Nat->aw}{g:Nat->Nat->Nat->Nat->aw}(h:nE x e f g≠ .ax):
 (∃cs o,x= .ep cs o/\nE x e f g=e cs o)\/(∃k s o,x= .bn k s o/\nE x e f g=f k s o)\/(∃k s i o,x= .dH k s i o/\nE x e f g=g k s i o):=by
 cases x<;>first|exact absurd rfl h|exact .inl ⟨_,_,rfl,rfl⟩|exact .inr (.inl ⟨_,_,_,rfl,rfl⟩)|exact .inr (.inr ⟨_,_,_,_,rfl,rfl⟩)
theorem DB{z:aw}{f:Nat->aY->aw}{g:Nat->Nat->Nat->Nat->aw}(h:qW x z f g≠ .ax):
 (x= .aE/\qW x z f g=z)\/(∃sz es,x= .aQ sz es/\qW x z f g=f sz es)\/(∃k s o l,x= .az k s o l/\qW x z f g=g k s o l):=by
 cases x<;>first|exact absurd rfl h|exact .inl ⟨rfl,rfl⟩|exact .inr (.inl ⟨_,_,rfl,rfl⟩)|exact .inr (.inr ⟨_,_,_,_,rfl,rfl⟩)
theorem awW{z:aw}{f:Nat->aY->aw}{g:Nat->Nat->Nat->Nat->aw}{t:aB->aw}(h:ty x z f g t≠ .ax):
 (x= .aE/\ty x z f g t=z)\/(∃sz es,x= .aQ sz es/\ty x z f g t=f sz es)\/(∃k s o l,x= .az k s o l/\ty x z f g t=g k s o l)\/∃vs,x= .a0 vs/\ty x z f g t=t vs:=by
 cases x<;>first|exact absurd rfl h|exact .inl ⟨rfl,rfl⟩|exact .inr (.inl ⟨_,_,rfl,rfl⟩)|exact .inr (.inr (.inl ⟨_,_,_,_,rfl,rfl⟩))|exact .inr (.inr (.inr ⟨_,rfl,rfl⟩))
theorem JA{f:Nat->aB->aw}(h:nA o f≠ .ax):∃s cs,o= .box s cs/\nA o f=f s cs:=by cases o<;>first|exact absurd rfl h|exact⟨_,_,rfl,rfl⟩
theorem w4{f:Nat->Nat->Nat->aY->Bool->aw}(h:jQ o f≠ .ax):∃s e sz es r,o= .az s e sz es r/\jQ o f=f s e sz es r:=by cases o<;>first|exact absurd rfl h|exact⟨_,_,_,_,_,rfl,rfl⟩
noncomputable def Gr(k:IntKind):Nat:= @IntKind.rec (λ_=>Nat) 0 1 2 3 4 5 6 7 k
noncomputable def lQ(k a:IntKind):Bool:=Nat.beq (Gr k) (Gr a)
theorem pH{k a:IntKind}(h:lQ k a=true):k=a/\vY k a=true:=by cases k<;>cases a<;>first|exact⟨rfl,rfl⟩|exact absurd h (by simp[lQ,Gr])
noncomputable def aAD(k:IntKind):Nat:= @IntKind.rec (λ_=>Nat) 18446744073709551488 18446744073709518848 18446744071562067968 9223372036854775808 18446744073709551616 18446744073709551616 18446744073709551616 18446744073709551616 k
noncomputable def aqz(k:IntKind):Nat:= @IntKind.rec (λ_=>Nat) 18446744073709551743 18446744073709584383 18446744075857035263 27670116110564327423 18446744073709551871 18446744073709617151 18446744078004518911 36893488147419103231 k
noncomputable def qX(k:IntKind)(n:Nat):Bool:=cS (Nat.ble (aAD k) n) (Nat.ble n (aqz k))
theorem zZ(k:IntKind)(n:Nat):qX k n=lr k n:=by unfold qX;rw[jg];cases k<;>rfl
end
end
end Go.Hf
