import Derived.Test.YteehpeajjbkjnaaGreatDoorAd
import Derived.IntWalk
set_option linter.all false
noncomputable section
namespace Go.Hf
section
variable{v:Value}{k:IntKind}{n:Nat}
inductive ao where
 |undef
 |U (x:Bool)
 |ag (k:IntKind) (n:Nat)
 |s (l n:Nat)
 |ba
 |bo (v:Value)
 |agg (cs:List ao)
 |bD (vs:List ao)
 |aN (sz:Nat) (es:List (List ao))
 |gk (cs:List ao) (off:Nat)
 |aQ (k s off:Nat)
 |aV (k s off len:Nat)
 |eP (k s i off:Nat)
 |fX (k s:Nat)
 |ey (f:Nat) (cR:List ao)
 |tok (i:Nat)
 deriving Inhabited
abbrev bg:=List (List ao)
abbrev az:=List ao
def Q5:aT->Bool
 | .bo _=>true
 | .aN _ _=>true
 | .gk _ _=>true
 |_=>false
class Tok where
 τ:Nat->aT
 p4:∀i,Q5 (τ i)=true
theorem um{p:aT}(h:Q5 p=true):(∃v,p= .bo v)\/(∃sz es,p= .aN sz es)\/∃cs o,p= .gk cs o:=by cases p<;>simp[Q5]at h;exact .inl ⟨_,rfl⟩;exact .inr (.inl ⟨_,_,rfl⟩);exact .inr (.inr ⟨_,_,rfl⟩)
def intOf(n:Nat):Int:=(n:Int)-18446744073709551616
section
variable[Tok]
mutual
def bk:ao->aT
 | .undef=> .undef
 | .U x=> .bo (.bool x)
 | .ag k n=> .bo (.int k (intOf n))
 | .s l n=> .bo (.string (fd l n))
 | .ba=>kv
 | .bo v=> .bo v
 | .agg cs=> .agg (g0 cs)
 | .bD cs=> .bD (g0 cs)
 | .aN sz es=> .aN sz (lH es)
 | .gk cs off=> .gk (g0 cs) off
 | .aQ k s off=> .aQ k s off
 | .aV k s off len=> .aV k s off len
 | .eP k s i off=> .eP k s i off
 | .fX k s=> .fX k s
 | .ey f cs=> .ey f (g0 cs)
 | .tok i=>Tok.τ i
def g0:List ao->eb
 |[]=>[]
 |x::r=>bk x::g0 r
def lH:List (List ao)->l7
 |[]=>[]
 |x::r=>g0 x::lH r
end
theorem aaf(i:Nat):(Tok.τ i).cells=some [Tok.τ i]:=by rcases um (Tok.p4 i) with⟨v,h⟩|⟨sz,es,h⟩|⟨cs,o,h⟩<;>rw[h]<;>rfl
theorem aah(i:Nat):(Tok.τ i).cJ=[]:=by rcases um (Tok.p4 i) with⟨v,h⟩|⟨sz,es,h⟩|⟨cs,o,h⟩<;>rw[h]<;>rfl
theorem aag(i:Nat):(Tok.τ i).key=[]:=by rcases um (Tok.p4 i) with⟨v,h⟩|⟨sz,es,h⟩|⟨cs,o,h⟩<;>rw[h]<;>rfl
theorem aaj(i:Nat):(Tok.τ i).fe=[]:=by rcases um (Tok.p4 i) with⟨v,h⟩|⟨sz,es,h⟩|⟨cs,o,h⟩<;>rw[h]<;>rfl
theorem aai(i:Nat):(Tok.τ i).dl=[]:=by rcases um (Tok.p4 i) with⟨v,h⟩|⟨sz,es,h⟩|⟨cs,o,h⟩<;>rw[h]<;>rfl
theorem aak(ob:cT)(i:Nat):h8 ob (Tok.τ i)=some (Tok.τ i):=by rcases um (Tok.p4 i) with⟨v,h⟩|⟨sz,es,h⟩|⟨cs,o,h⟩<;>rw[h]<;>rfl
theorem aal(ob:cT)(i:Nat):jb ob (Tok.τ i)=some (Tok.τ i):=by rcases um (Tok.p4 i) with⟨v,h⟩|⟨sz,es,h⟩|⟨cs,o,h⟩<;>rw[h]<;>rfl
theorem aam(ob:cT)(i:Nat):k7 ob (Tok.τ i)=[]:=by rcases um (Tok.p4 i) with⟨v,h⟩|⟨sz,es,h⟩|⟨cs,o,h⟩<;>rw[h]<;>rfl
theorem aan(ob:cT)(i:Nat):jN ob (Tok.τ i)=[]:=by rcases um (Tok.p4 i) with⟨v,h⟩|⟨sz,es,h⟩|⟨cs,o,h⟩<;>rw[h]<;>rfl
attribute [simp] aaf aah aag aaj aai aak aal aam aan
theorem ma:∀(l:List ao),g0 l=l.map bk
 |[]=>by simp[g0]
 |x::r=>by simp[g0,ma r]
theorem oO:∀(l:List (List ao)),lH l=l.map g0
 |[]=>by simp[lH]
 |x::r=>by simp[lH,oO r]
def qo:ao->Option Value
 | .U x=>some (.bool x)
 | .ag k n=>some (.int k (intOf n))
 | .s l n=>some (.string (fd l n))
 | .ba=>some (.slice none 0 0)
 | .bo v=>some v
 |_=>none
theorem Dz{x:ao}(h:qo x=some v):bk x= .bo v:=by cases x<;>simp[qo]at h<;>subst h<;>simp[bk,kv]
def mL:Value->Option ao
 | .bool x=>some (.U x)
 | .int k n=>if-18446744073709551616<=n then some (.ag k (n+18446744073709551616).toNat) else none
 | .string _=>none
 |v=>some (.bo v)
theorem QN{x:ao}(h:mL v=some x):bk x= .bo v:=by unfold mL at h;split at h;cases h;simp[bk];rename_i k n;split at h;cases h;simp only[bk,intOf];congr 2;omega;cases h;cases h;cases h;simp[bk]
def C0:IntKind->Nat
 | .i8=>18446744073709551488
 | .i16=>18446744073709518848
 | .i32=>18446744071562067968
 | .i64=>9223372036854775808
 |_=>18446744073709551616
def GD:IntKind->Nat
 | .i8=>18446744073709551743
 | .i16=>18446744073709584383
 | .i32=>18446744075857035263
 | .i64=>27670116110564327423
 | .u8=>18446744073709551871
 | .u16=>18446744073709617151
 | .u32=>18446744078004518911
 | .u64=>36893488147419103231
def mP(k:IntKind)(n:Nat):Bool:=Nat.ble (C0 k) n&&Nat.ble n (GD k)
theorem Rv(h:mP k n=true):k.wrap (intOf n)=intOf n:=by simp only[mP,cC]at h;have a:=dX h.1;have b:=dX h.2;unfold intOf;cases k<;>simp only[C0,GD]at a b;exact IntWalk.i8_in _ (by omega);exact IntWalk.i16_in _ (by omega);exact IntWalk.i32_in _ (by omega);exact IntWalk.i64_in _ (by omega);exact IntWalk.u8_in _ (by omega);exact IntWalk.u16_in _ (by omega);exact IntWalk.u32_in _ (by omega);exact IntWalk.u64_in _ (by omega)
theorem aos(h:mP k n=true):0<n:=by simp only[mP,cC]at h;have a:=dX h.1;cases k<;>simp only[C0]at a<;>omega
def uW:IntKind->IntKind->Bool
 | .i64,.i64=>true
 | .u8,.u8=>true
 | .i32,.i32=>true
 | .u64,.u64=>true
 | .u32,.u32=>true
 | .i8,.i8=>true
 | .i16,.i16=>true
 | .u16,.u16=>true
 |_,_=>false
theorem adY{a:IntKind}(h:uW k a=true):k=a:=by cases k<;>cases a<;>first|rfl|(simp[uW]at h)
def wi(f:Value->Value->Option Value)(x y:ao):Option ao:=
 match qo x,qo y with
 |some a,some b=>(f a b).bind mL
 |_,_=>none
def tb(a:BinOp)(k:IntKind)(x y:Nat):Option ao:=
 match a with
 | .add=>bif mP k (Nat.sub (Nat.add x y) 18446744073709551616) then some (.ag k (Nat.sub (Nat.add x y) 18446744073709551616)) else none
 | .sub=>bif Nat.ble y (Nat.add x 18446744073709551616)&&mP k (Nat.sub (Nat.add x 18446744073709551616) y) then some (.ag k (Nat.sub (Nat.add x 18446744073709551616) y)) else none
 | .eql=>some (.U (Nat.beq x y))
 | .neq=>some (.U (!Nat.beq x y))
 | .lss=>some (.U (Nat.blt x y))
 | .leq=>some (.U (Nat.ble x y))
 | .gtr=>some (.U (Nat.blt y x))
 | .geq=>some (.U (Nat.ble y x))
 |_=>none
theorem aot{d:BinOp}{x y:Nat}{v:ao}(h:tb d k x y=some v):∃z,kA d (.int k (intOf x)) (.int k (intOf y))=some z/\bk v= .bo z:=by
 have i:∀a b:Nat,Nat.blt a b=decide (a<b):=λa b=>by rw[n0];simp[AS]
 have j:∀a b:Nat,Nat.ble a b=decide (a<=b):=λa b=>by rw[n0];simp
 have l:∀a b:Nat,Nat.beq a b=decide (a=b):=λa b=>by rw[n0];simp
 cases d<;>simp only[tb]at h
 case add=>
  cases c:mP k (Nat.sub (Nat.add x y) 18446744073709551616) with
  |false=>rw[c]at h;simp at h
  |true=>
   rw[c]at h;simp only[e6,dN]at h;subst h;have g:=aos c;have e:intOf x+intOf y=intOf (Nat.sub (Nat.add x y) 18446744073709551616):=by simp only[intOf,sv,h5]at g ⊢;omega
   refine⟨.int k (intOf (Nat.sub (Nat.add x y) 18446744073709551616)),?_,by simp only[bk]⟩;simp only[kA,gF,e,Rv c]
 case sub=>
  cases c:(Nat.ble y (Nat.add x 18446744073709551616)&&mP k (Nat.sub (Nat.add x 18446744073709551616) y)) with
  |false=>rw[c]at h;simp at h
  |true=>
   rw[c]at h;simp only[e6,dN]at h;subst h;simp only[cC]at c;have g:=dX c.1;have e:intOf x-intOf y=intOf (Nat.sub (Nat.add x 18446744073709551616) y):=by simp only[intOf,sv,h5]at g ⊢;omega
   refine⟨.int k (intOf (Nat.sub (Nat.add x 18446744073709551616) y)),?_,by simp only[bk]⟩;simp only[kA,gF,e,Rv c.2]
 case eql=>cases h;exact⟨_,by simp[kA];rfl,by simp only[bk,intOf,l];congr 2;rw[n0];simp;omega⟩
 case neq=>cases h;exact⟨_,by simp[kA];rfl,by simp only[bk,intOf,l];congr 2;rw[n0];simp;omega⟩
 case lss=>cases h;exact⟨_,by simp[kA];rfl,by simp only[bk,intOf,i];congr 2;rw[n0];simp⟩
 case leq=>cases h;exact⟨_,by simp[kA];rfl,by simp only[bk,intOf,j];congr 2;rw[n0];simp⟩
 case gtr=>cases h;exact⟨_,by simp[kA];rfl,by simp only[bk,intOf,i];congr 2;rw[n0];simp⟩
 case geq=>cases h;exact⟨_,by simp[kA];rfl,by simp only[bk,intOf,j];congr 2;rw[n0];simp⟩
 all_goals cases h
end
end
section
variable{cs:az}
section
variable[Tok]
def nk:List UInt8->Nat
 |[]=>0
 |c::r=>c.toNat*256^r.length+nk r
theorem Dd:∀(l:List UInt8),nk l<256^l.length
 |[]=>by simp[nk]
 |c::r=>by have h:=Dd r;have a:c.toNat<256:=c.toNat_lt;simp only[nk,qw,m1];have:c.toNat*256^r.length<=255*256^r.length:=jP _ (by omega);omega
theorem zB:∀(l:List UInt8),iq l.length (nk l)=l
 |[]=>rfl
 |c::r=>by have h:=Dd r;have a:0<256^r.length:=Nat.pow_pos (by omega);simp only[qw,iq,nk];congr 1;rw[su,Il a,DX h,rq];exact UInt8.ofNat_toNat;rw[<-F8,su,Im,F8,zB r]
def kY:Value->ao
 | .bool x=> .U x
 | .int k n=>if-18446744073709551616<=n then .ag k (n+18446744073709551616).toNat else .bo (.int k n)
 | .string s=> .s s.data.toList.length (nk s.data.toList)
 | .slice none 0 0=> .ba
 |v=> .bo v
theorem Gm(v:Value):bk (kY v)= .bo v:=by unfold kY;split;simp[bk];rename_i k n;split;simp only[bk,intOf];congr 2;omega;simp[bk];rename_i s;simp only[bk,fd,zB];simp[bk,kv];simp[bk]
def Gn:Value->ao
 | .agg cs=> .agg (cs.toList.map kY)
 |v=>kY v
theorem ams(v:Value):bk (Gn v)=Ss v:=by unfold Gn Ss;split;simp only[bk,ma,yK];congr 1;apply AX;intro x _;exact Gm x;rename_i h;split;rename_i cs;exact absurd rfl (h cs);exact Gm v
inductive eQ where
 |aF (s:Nat)
 |box (s:Nat) (cs:az)
 |aV (s e sz:Nat) (es:bg) (bL:Bool)
 |map (s:Nat) (es:List (Value×Value))
 deriving Inhabited
abbrev fk:=List (Nat×eQ)
abbrev dE:=Nat->eQ
def fz:eQ->Obj
 | .aF s=> .aF s
 | .box s cs=> .box s (g0 cs)
 | .aV s e sz es bL=> .aV s e sz (lH es) bL
 | .map s es=> .map s es
def eQ.cH:eQ->Nat
 | .aF s=>s
 | .box s _=>s
 | .aV s _ _ _ _=>s
 | .map s _=>s
theorem AD(o:eQ):(fz o).cH=o.cH:=by cases o<;>rfl
def iy(u:Nat×eQ):Nat×Obj:=(u.1,fz u.2)
def ao.cells:ao->Option az
 | .agg cs=>some cs
 | .undef=>none
 | .bD _=>none
 |v=>some [v]
theorem Ge{x:ao}(h:x.cells=some cs):(bk x).cells=some (g0 cs):=by
 cases x with
 |tok i=>simp only[ao.cells,dN]at h;subst h;simp only[bk,g0];exact aaf i
 |_=>simp[ao.cells]at h<;>subst h<;>simp[bk,g0,aT.cells,kv]
def ao.cJ:ao->List Nat
 | .aQ k _ _=>[k]
 | .aV k _ _ _=>[k]
 | .eP k _ _ _=>[k]
 | .fX k _=>[k]
 |_=>[]
theorem aqe(x:ao):(bk x).cJ=x.cJ:=by
 cases x with
 |tok i=>simp only[bk];exact aah i
 |_=>simp[bk,aT.cJ,ao.cJ,kv]
def ao.key:ao->List Nat
 | .ey _ cR=>cR.flatMap ao.cJ
 |v=>v.cJ
theorem GX(x:ao):(bk x).key=x.key:=by
 cases x with
 |ey f cR=>simp only[bk,aT.key,ao.key,ma,sx];congr 1;funext y;exact aqe y
 |tok i=>simp only[bk];exact aag i
 |_=>simp[bk,aT.key,ao.key,aT.cJ,ao.cJ,kv]
def ao.fe:ao->List Nat
 | .agg cs=>cs.flatMap ao.key
 |v=>v.key
theorem abF(x:ao):(bk x).fe=x.fe:=by
 cases x with
 |agg cs=>simp only[bk,aT.fe,ao.fe,ma,sx];congr 1;funext y;exact GX y
 |ey f cR=>exact GX (.ey f cR)
 |tok i=>simp only[bk];exact aaj i
 |_=>simp[bk,aT.fe,ao.fe,aT.key,ao.key,aT.cJ,ao.cJ,kv]
def ao.dl:ao->List Nat
 | .bD cs=>cs.flatMap ao.fe
 |v=>v.fe
theorem p3(x:ao):(bk x).dl=x.dl:=by
 cases x with
 |bD cs=>simp only[bk,aT.dl,ao.dl,ma,sx];congr 1;funext y;exact abF y
 |agg cs=>exact abF (.agg cs)
 |ey f cR=>exact GX (.ey f cR)
 |tok i=>simp only[bk];exact aai i
 |_=>simp[bk,aT.dl,ao.dl,aT.fe,ao.fe,aT.key,ao.key,aT.cJ,ao.cJ,kv]
def part(es:bg)(off len:Nat):bg:=bif Nat.beq off 0&&Nat.beq len es.length then es else(es.drop off).take len
theorem L9(es:bg)(off len:Nat):part es off len=(es.drop off).take len:=by
 unfold part;cases h:(Nat.beq off 0&&Nat.beq len es.length) with
 |false=>rfl
 |true=>simp only[cC,k9]at h;obtain⟨rfl,rfl⟩:=h;simp
theorem QE(es:bg)(off len:Nat):lH ((es.drop off).take len)=((lH es).drop off).take len:=by simp only[oO,Ib,List.map_drop]
theorem vH(es:bg):(lH es).length=es.length:=by simp[oO]
theorem Gi(es:az):(g0 es).length=es.length:=by simp[ma]
def nn(ob:Nat->eQ):ao->Option ao
 | .aV k s off len=>
   match ob k with
   | .aV a _ sz es _=>bif Nat.beq s a&&Nat.ble (Nat.add off len) es.length then some (.aN sz (part es off len)) else none
   |_=>none
 | .U x=>some (.U x)
 | .ag k n=>some (.ag k n)
 | .s l n=>some (.s l n)
 | .ba=>some .ba
 | .bo v=>some (.bo v)
 | .aN sz es=>some (.aN sz es)
 | .gk cs off=>some (.gk cs off)
 | .tok i=>some (.tok i)
 |_=>none
theorem ac6{ob:Nat->eQ}{x y:ao}(h:nn ob x=some y):h8 (λk=>fz (ob k)) (bk x)=some (bk y):=by
 cases x with
 |aV k s off len=>
  simp only[nn]at h;split at h;rename_i b e sz es bL c;cases a:(Nat.beq s b&&Nat.ble (Nat.add off len) es.length) with
  |false=>rw[a]at h;simp at h
  |true=>rw[a]at h;simp only[e6,dN]at h;subst h;simp only[cC,k9]at a;have d:=dX a.2;simp only[bk,h8,c,fz,vH];rw[dr ⟨a.1,d⟩,L9,QE]
  cases h
 |tok i=>simp only[nn,dN]at h;subst h;simp only[bk];exact aak _ i
 |_=>simp[nn]at h<;>subst h<;>simp[bk,h8,kv]
def sj(ob:Nat->eQ):az->Option az
 |[]=>some []
 |p::ps=>match nn ob p,sj ob ps with
  |some q,some a=>some (q::a)
  |_,_=>none
theorem ac9{ob:Nat->eQ}:∀{xs ys:az},sj ob xs=some ys->qi (λk=>fz (ob k)) (g0 xs)=some (g0 ys)
 |[],ys,h=>by cases h;simp[g0,qi]
 |x::xs,ys,h=>by simp only[sj]at h;split at h;rename_i q c a b;cases h;simp only[g0,qi,ac6 a,ac9 b];cases h
def mV(ob:Nat->eQ):ao->Option ao
 | .agg cs=>match sj ob cs with
   |some a=>some (.agg a)
   |none=>none
 |v=>nn ob v
theorem Hn{ob:Nat->eQ}{x y:ao}(h:mV ob x=some y):jb (λk=>fz (ob k)) (bk x)=some (bk y):=by
 cases x with
 |agg cs=>simp only[mV]at h;split at h;rename_i b a;cases h;simp only[bk,jb,ac9 a,jH];cases h
 |aV k s off len=>exact ac6 (x:= .aV k s off len) h
 |tok i=>simp only[mV,nn,dN]at h;subst h;simp only[bk];exact aal _ i
 |_=>simp[mV,nn]at h<;>subst h<;>simp[bk,jb,h8,kv]
def rh(ob:Nat->eQ):ao->List (Nat×eQ)
 | .aV k _ _ _=>
   match ob k with
   | .aV s e sz es true=>[(k,.aV s e sz es false)]
   |_=>[]
 |_=>[]
theorem ad6(ob:Nat->eQ)(x:ao):k7 (λk=>fz (ob k)) (bk x)=(rh ob x).map iy:=by
 cases x with
 |aV k s off len=>
  simp only[bk,k7,rh];cases ho:ob k with
  |aV s e sz es bL=>cases bL<;>simp[fz,iy]
  |_=>simp[fz]
 |tok i=>simp only[bk];exact aam _ i
 |_=>simp[bk,k7,rh,kv]
def pI(ob:Nat->eQ):ao->List (Nat×eQ)
 | .agg cs=>cs.flatMap (rh ob)
 |v=>rh ob v
theorem HH(ob:Nat->eQ)(x:ao):jN (λk=>fz (ob k)) (bk x)=(pI ob x).map iy:=by
 cases x with
 |agg cs=>simp only[bk,jN,pI,ma,sx,List.map_flatMap];congr 1;funext y;exact ad6 ob y
 |aV k s off len=>exact ad6 ob (.aV k s off len)
 |tok i=>simp only[bk];exact aan _ i
 |_=>simp[bk,jN,k7,pI,rh,kv]
def rY(ob:Nat->eQ)(sz:Nat):ao->Option bg
 | .ba=>some []
 | .aN a es=>bif Nat.beq a sz then some es else none
 | .aV k s off len=>
   match ob k with
   | .aV b _ a es _=>bif Nat.beq s b&&Nat.beq a sz&&Nat.ble (Nat.add off len) es.length then some (part es off len) else none
   |_=>none
 |_=>none
theorem Kx{ob:Nat->eQ}{sz:Nat}{x:ao}{es:bg}(h:rY ob sz x=some es):mK (λk=>fz (ob k)) sz (bk x)=some (lH es):=by
 cases x with
 |ba=>simp[rY]at h;subst h;simp[bk,kv,mK,lH]
 |aN b ea=>
  simp only[rY]at h;cases a:Nat.beq b sz with
  |false=>rw[a]at h;simp at h
  |true=>rw[a]at h;simp only[e6,dN]at h;subst h;have:=e8 a;simp[bk,mK,this]
 |aV k s off len=>
  simp only[rY]at h;split at h;rename_i c e b ea bL d;cases a:(Nat.beq s c&&Nat.beq b sz&&Nat.ble (Nat.add off len) ea.length) with
  |false=>rw[a]at h;simp at h
  |true=>rw[a]at h;simp only[e6,dN]at h;subst h;simp only[cC,k9]at a;have g:=dX a.2;simp only[bk,mK,d,fz,vH];rw[dr ⟨a.1.1,a.1.2,g⟩,L9,QE]
  cases h
 |_=>simp[rY]at h
def ty(isAgg:Bool)(n:Nat)(cs:az)(off:Nat):Option ao:=
 bif isAgg then(bif Nat.ble (Nat.add off n) cs.length then some (.agg ((cs.drop off).take n)) else none) else cs[off]?
theorem HQ{isAgg:Bool}{n off:Nat}{v:ao}(h:ty isAgg n cs off=some v):qn isAgg n (g0 cs) off=some (bk v):=by
 cases isAgg with
 |true=>
  simp only[ty,e6]at h;cases a:Nat.ble (Nat.add off n) cs.length with
  |false=>rw[a]at h;simp at h
  |true=>rw[a]at h;simp only[e6,dN]at h;subst h;have b:off+n<=cs.length:=dX a;simp only[qn,gF,Gi];rw[dr b];simp only[bk,ma,Ib,List.map_drop]
 |false=>simp only[ty,DM]at h;simp only[qn,io,hV,ma,lx,h,jH]
def uS(cs:az)(off:Nat)(new:az):az:=cs.take off++new++cs.drop (off+new.length)
theorem SO(cs:az)(off:Nat)(new:az):nW (g0 cs) off (g0 new)=g0 (uS cs off new):=by simp only[nW,uS,ma,oz,Ib,List.map_drop,mw]
end
end
section
variable{x y v:ao}
section
variable[Tok]
theorem Gh(l:List Value):g0 (l.map kY)=l.map aT.bo:=by rw[ma,yK];apply AX;intro x _;exact Gm x
abbrev pS:=Option (ao×fk)
def fP(x:Option ao):pS:=match x with|some v=>some (v,[])|none=>none
def TF(c a b:ao):Option ao:=match c with| .U true=>some a| .U false=>some b|_=>none
def xH(cs:az):List (Nat×Nat×ao)->Option az
 |[]=>some cs
 |(off,n,x)::r=>
  match x.cells with
  |some new=>bif Nat.beq new.length n&&Nat.ble (Nat.add off n) cs.length then xH (uS cs off new) r else none
  |none=>none
def xG(ob:dE)(sz:Nat)(es:bg):List (Nat×ao)->Option bg
 |[]=>some es
 |(i,x)::r=>
  match mV ob x with
  |some q=>match q.cells with
   |some new=>bif Nat.beq new.length sz&&Nat.blt i es.length then xG ob sz (es.set i new) r else none
   |none=>none
  |none=>none
def DC(ob:dE)(isAgg:Bool)(n:Nat)(a:ao):Option ao:=
 match a with
 | .aQ k s off=>match ob k with
   | .box b cs=>bif Nat.beq s b then ty isAgg n cs off else none
   |_=>none
 | .eP k s i off=>match ob k with
   | .aV b _ _ es _=>bif Nat.beq s b then(match es[i]? with|some cs=>ty isAgg n cs off|none=>none) else none
   |_=>none
 | .gk cs off=>ty isAgg n cs off
 |_=>none
def pN(ob:dE)(n:Nat)(a v:ao):pS:=
 match a with
 | .aQ k s off=>match ob k,v.cells with
   | .box b cs,some new=>bif Nat.beq s b&&Nat.beq new.length n&&Nat.ble (Nat.add off n) cs.length then some (.undef,[(k,.box s (uS cs off new))]) else none
   |_,_=>none
 | .eP k s i off=>match ob k,mV ob v with
   | .aV b e sz es true,some q=>match q.cells,es[i]? with
     |some new,some cs=>bif Nat.beq s b&&Nat.beq new.length n&&Nat.ble (Nat.add off n) cs.length&&v.dl.isEmpty then some (.undef,[(k,.aV s e sz (es.set i (uS cs off new)) true)]) else none
     |_,_=>none
   |_,_=>none
 |_=>none
def TE:ao->Option ao
 | .aQ k s off=>some (.aQ k s off)
 | .eP k s i off=>some (.eP k s i off)
 | .gk cs off=>some (.gk cs off)
 |_=>none
def uc(l n l' a:Nat):Bool:=Op.bytesLess (iq l n) (iq l' a)
def gR(d:BinOp)(x y:ao):Option ao:=
 match x,y with
 | .ag k a,.ag e b=>bif uW k e then(match tb d k a b with|some v=>some v|none=>wi (kA d) x y) else none
 | .s l n,.s l' c=>match d with
   | .eql=>some (.U (qP l n l' c))
   | .neq=>some (.U (!qP l n l' c))
   | .lss=>some (.U (uc l n l' c))
   | .leq=>some (.U (uc l n l' c||qP l n l' c))
   | .gtr=>some (.U (!(uc l n l' c||qP l n l' c)))
   | .geq=>some (.U (!uc l n l' c))
   | .add=>bif Nat.ble (Nat.add l l') 9223372036854775807 then some (.s (Nat.add l l') (Nat.add (Nat.mul n (Nat.pow 256 l')) (Nat.mod c (Nat.pow 256 l')))) else none
   |_=>none
 |_,_=>none
theorem ME{f:Value->Value->Option Value}(h:wi f x y=some v):∃a b z,bk x= .bo a/\bk y= .bo b/\f a b=some z/\bk v= .bo z:=by unfold wi at h;split at h;rename_i a b c d;rw[AR]at h;obtain⟨z,e,g⟩:=h;exact⟨a,b,z,Dz c,Dz d,e,QN g⟩;cases h
theorem Ka(l n l' a:Nat):uc l n l' a=Op.bytesLess (fd l n).toList (fd l' a).toList:=by unfold uc;rw[MP,MP,sV,sV]
theorem axl{i:BinOp}(h:gR i x y=some v):∃a b z,bk x= .bo a/\bk y= .bo b/\kA i a b=some z/\bk v= .bo z:=by
 unfold gR at h;split at h;rename_i k a j b;cases d:uW k j with
 |false=>rw[d]at h;simp at h
 |true=>rw[d]at h;have e:=adY d;subst e;simp only[e6]at h;split at h;rename_i w o;cases h;obtain⟨z,p,q⟩:=aot o;exact⟨_,_,z,by simp[bk],by simp[bk],p,q⟩;exact ME h
 rename_i l n l' c;split at h;cases h;exact⟨.string (fd l n),.string (fd l' c),.bool ((fd l n).toList==(fd l' c).toList),by simp only[bk],by simp only[bk],by simp only[kA],by simp only[bk,zH]⟩;cases h;exact⟨.string (fd l n),.string (fd l' c),.bool (!((fd l n).toList==(fd l' c).toList)),by simp only[bk],by simp only[bk],by simp only[kA],by simp only[bk,zH]⟩;cases h;exact⟨.string (fd l n),.string (fd l' c),.bool (Op.bytesLess (fd l n).toList (fd l' c).toList),by simp only[bk],by simp only[bk],by simp only[kA],by simp only[bk,zH,Ka]⟩;cases h;exact⟨.string (fd l n),.string (fd l' c),.bool (Op.bytesLess (fd l n).toList (fd l' c).toList||(fd l n).toList==(fd l' c).toList),by simp only[bk],by simp only[bk],by simp only[kA],by simp only[bk,zH,Ka]⟩;cases h;exact⟨.string (fd l n),.string (fd l' c),.bool (!(Op.bytesLess (fd l n).toList (fd l' c).toList||(fd l n).toList==(fd l' c).toList)),by simp only[bk],by simp only[bk],by simp only[kA],by simp only[bk,zH,Ka]⟩;cases h;exact⟨.string (fd l n),.string (fd l' c),.bool (!Op.bytesLess (fd l n).toList (fd l' c).toList),by simp only[bk],by simp only[bk],by simp only[kA],by simp only[bk,zH,Ka]⟩;cases g:Nat.ble (Nat.add l l') 9223372036854775807 with
 |false=>rw[g]at h;simp at h
 |true=>rw[g]at h;simp only[e6,dN]at h;subst h;have r:l+l'<=9223372036854775807:=dX g;refine⟨.string (fd l n),.string (fd l' c),.string (fd l n++fd l' c),by simp only[bk],by simp only[bk],?_,?_⟩;simp only[kA,Kf];rw[dU];show¬((l+l':Nat):Int)>9223372036854775807;omega;simp only[bk,aj1];rfl
 cases h;cases h
def TA(neg:Bool)(x y:ao):Option ao:=match x,y with| .U a,.U b=>some (.U (xor neg (a==b)))|_,_=>none
def M2(neg:Bool)(x y:ao):Option ao:=match x,y with
 | .agg [.s a n,.s b m],.agg [.s c d,.s b' e]=>some (.U (xor neg (qP a n c d&&qP b m b' e)))
 |_,_=>none
def M4(neg:Bool)(x:ao):Option ao:=match x with
 | .ba=>some (.U !neg)
 | .aN _ _=>some (.U neg)
 | .aV _ _ _ _=>some (.U neg)
 |_=>none
def H3(c:UnOp)(x:ao):Option ao:=match x with
 | .U a=>match c with| .not=>some (.U !a)|_=>none
 |x=>match qo x with|some a=>(HN c a).bind mL|none=>none
def qp(k:IntKind)(x:ao):Option ao:=match x with
 | .ag _ n=>bif mP k n then some (.ag k n) else mL (.int k (k.wrap (intOf n)))
 |_=>none
def yF(a:BinOp)(x y:ao):Option ao:=wi (Dw a) x y
def lZ(a:BinOp)(x y:ao):Option ao:=wi (Az a) x y
def rT(ju:Nat)(x:Option ao):Option Nat:=match x with
 |none=>some ju
 |some (.ag _ n)=>bif Nat.ble 18446744073709551616 n then some (Nat.sub n 18446744073709551616) else none
 |_=>none
def M6(x:ao)(lo hi:Option ao):Option ao:=match x with
 | .s l n=>match rT 0 lo,rT l hi with
   |some a,some b=>bif Nat.ble a b&&Nat.ble b l then some (.s (Nat.sub b a) (Nat.mod (Nat.div n (Nat.pow 256 (Nat.sub l b))) (Nat.pow 256 (Nat.sub b a)))) else none
   |_,_=>none
 |_=>none
def DE(ob:dE)(sz:Nat)(x:ao)(lo hi:Option ao):Option ao:=match x with
 | .aN a es=>match rT 0 lo,rT es.length hi with
   |some l,some h=>bif Nat.beq a sz&&Nat.ble l h&&Nat.ble h es.length then some (.aN sz (part es l (Nat.sub h l))) else none
   |_,_=>none
 | .aV k s off len=>match rT 0 lo,rT len hi,ob k with
   |some l,some h,.aV b _ a _ _=>bif Nat.beq s b&&Nat.beq a sz&&Nat.ble l h&&Nat.ble h len then some (.aV k s (Nat.add off l) (Nat.sub h l)) else none
   |_,_,_=>none
 | .ba=>match rT 0 lo,rT 0 hi with
   |some 0,some 0=>some .ba
   |_,_=>none
 |_=>none
def TB(o:Nat)(x:ao):Option ao:=match x with
 | .aQ k s off=>some (.aQ k s (Nat.add off o))
 | .eP k s i off=>some (.eP k s i (Nat.add off o))
 | .gk cs off=>some (.gk cs (Nat.add off o))
 |_=>none
def TC(isAgg:Bool)(off n:Nat)(x:ao):Option ao:=match x with
 | .agg cs=>ty isAgg n cs off
 |_=>none
def H1(ob:dE)(sz:Nat)(x i:ao):Option ao:=match x,i with
 | .aN a es,.ag _ n=>bif Nat.beq a sz&&Nat.ble 18446744073709551616 n then(match es[Nat.sub n 18446744073709551616]? with|some cs=>some (.gk cs 0)|none=>none) else none
 | .aV k s off len,.ag _ n=>match ob k with
   | .aV b _ a _ _=>bif Nat.beq s b&&Nat.beq a sz&&Nat.ble 18446744073709551616 n&&Nat.blt (Nat.sub n 18446744073709551616) len then some (.eP k s (Nat.add off (Nat.sub n 18446744073709551616)) 0) else none
   |_=>none
 |_,_=>none
def M5(x i:ao):Option ao:=match x,i with
 | .s l n,.ag _ m=>bif Nat.ble 18446744073709551616 m&&Nat.blt (Nat.sub m 18446744073709551616) l then
  some (.ag .u8 (Nat.add 18446744073709551616 (Nat.mod (Nat.div n (Nat.pow 256 (Nat.sub (Nat.sub l 1) (Nat.sub m 18446744073709551616)))) 256))) else none
 |_,_=>none
def M3(x:ao)(i:Nat):Option ao:=match x with
 | .bD (.undef::_)=>none
 | .bD vs=>vs[i]?
 |_=>none
def TD(kq:Bool)(x:ao):Option ao:=match kq,x with
 |true,.s l _=>some (.ag .i64 (Nat.add 18446744073709551616 l))
 |false,.ba=>some (.ag .i64 18446744073709551616)
 |false,.aN _ es=>some (.ag .i64 (Nat.add 18446744073709551616 es.length))
 |false,.aV _ _ _ len=>some (.ag .i64 (Nat.add 18446744073709551616 len))
 |_,_=>none
def CO:ao->Bool
 | .bD _=>true
 |_=>false
def ss(ob:dE)(d e sz bytes:Nat)(s x:ao)(bL:Bool):pS:=
 match s,rY ob sz x with
 | .ba,some ys=>
   bif Nat.ble (Nat.mul ys.length bytes) 1099511627776&&Nat.ble ys.length 1099511627776 then
    match ys with
    |[]=>some (.ba,[])
    |_=>some (.aV d (Nat.add (ob d).cH 1) 0 ys.length,[(d,.aV (Nat.add (ob d).cH 1) e sz ys bL)])
   else none
 | .aV k bZ 0 len,some ys=>match ob k with
   | .aV b e' a es r=>
     bif Nat.beq bZ b&&Nat.beq e' e&&Nat.beq a sz&&(Nat.beq len es.length||(r&&Nat.ble len es.length))&&Nat.ble (Nat.mul (Nat.add len ys.length) bytes) 1099511627776&&Nat.ble (Nat.add len ys.length) 1099511627776 then
      some (.aV k (Nat.add bZ 1) 0 (Nat.add len ys.length),[(k,.aV (Nat.add bZ 1) e sz (es.take len++ys) r)])
     else none
   |_=>none
 | .bD [.undef,.aN a es],some ys=>
   bif Nat.beq a sz&&Nat.ble 1 ys.length&&Nat.ble (Nat.mul (Nat.add es.length ys.length) bytes) 1099511627776&&Nat.ble (Nat.add es.length ys.length) 1099511627776 then
    some (.aV d (Nat.add (ob d).cH 1) 0 (Nat.add es.length ys.length),[(d,.aV (Nat.add (ob d).cH 1) e sz (es++ys) bL)])
   else none
 |_,_=>none
def pJ(l n:Nat):bg:=
 @Nat.rec (λ_=>bg) [] (λk a=>[.ag .u8 (Nat.add 18446744073709551616 (Nat.mod (Nat.div n (Nat.pow 256 k)) 256))]::a) l
def M1(n sz:Nat)(x i:ao):Option ao:=match x,i with
 | .aQ k s off,.ag _ m=>bif Nat.ble 18446744073709551616 m&&Nat.ble (Nat.succ (Nat.sub m 18446744073709551616)) n then some (.aQ k s (Nat.add off (Nat.mul (Nat.sub m 18446744073709551616) sz))) else none
 |_,_=>none
def rm(c:Bool)(x y:ao):Option ao:=match x,y with
 | .ag k a,.ag d b=>bif uW k d then some (.ag k (bif c then(bif Nat.blt a b then b else a) else(bif Nat.blt b a then b else a))) else none
 |_,_=>none
def rj(d e sz bytes:Nat)(g:Nat)(zero:az)(l c:ao):pS:=match l,c with
 | .ag .i64 a,.ag .i64 b=>
   bif Nat.ble 18446744073709551616 a&&Nat.ble a b&&Nat.ble (Nat.mul (Nat.sub b 18446744073709551616) bytes) 1099511627776&&Nat.ble (Nat.sub b 18446744073709551616) 1099511627776 then
    some (.aV d (Nat.add g 1) 0 (Nat.sub a 18446744073709551616),[(d,.aV (Nat.add g 1) e sz (List.replicate (Nat.sub a 18446744073709551616) zero) true)])
   else none
 |_,_=>none
def Cm:bg->Option (List Nat)
 |[]=>some []
 |[.ag .u8 n]::r=>bif Nat.ble 18446744073709551616 n then(match Cm r with|some l=>some (Nat.sub n 18446744073709551616::l)|none=>none) else none
 |_=>none
def tC(ob:dE)(x:ao):Option ao:=match rY ob 1 x with
 |some es=>match Cm es with
  |some l=>some (.s l.length (nk (l.map UInt8.ofNat)))
  |none=>none
 |none=>none
def Qq:ao->Bool
 | .aQ _ _ _=>true
 | .bo (.pointer none)=>true
 |_=>false
def Qr(l:az):Bool:=l.all Qq&&l.any λp=>match p with| .aQ _ _ _=>true|_=>false
def AH(f:Nat)(l:az):Option ao:=match l with
 |[]=>some (.bo (.func (.func f) #[] #[]))
 |_=>bif Qr l then some (.ey f l) else none
def yD(ob:dE)(a:Nat)(m k v:ao):pS:=match m with
 | .fX r s=>match ob r,qo k,qo v with
   | .map b es,some x,some y=>bif Nat.beq s b&&mf a x&&es.all (λe=>k6 x e.1)&&iS y then some (.undef,[(r,.map s (mg es x y))]) else none
   |_,_,_=>none
 |_=>none
def u0(ob:dE)(c:Nat)(a:Bool)(zero:Value)(m k:ao):Option ao:=match m with
 | .fX r s=>match ob r,qo k with
   | .map d es,some x=>bif Nat.beq s d&&mf c x&&es.all (λe=>k6 x e.1) then
    (match sd es x with
    |some y=>some (bif a then .bD [kY y,.U true] else kY y)
    |none=>some (bif a then .bD [kY zero,.U false] else kY zero))
     else none
   |_,_=>none
 |_=>none
def MX(ob:dE)(m k:ao):pS:=match m,k with
 | .fX r s,.agg [.s _ _,.s _ _]=>match ob r with
   | .map a []=>bif Nat.beq s a then some (.undef,[(r,.aF s)]) else none
   |_=>none
 |_,_=>none
def MW(ob:dE)(sz:Nat)(z:az)(len:Nat)(ps:List (Nat×ao)):pS:=
 match xG ob sz (List.replicate len z) ps with
 |some es=>some (.aN sz es,ps.flatMap λp=>pI ob p.2)
 |none=>none
def qh{α:Type}(ev:α->ao)(ob:dE)(d:Nat):dO α->pS
 | .qa x=>some (ev x,[])
 | .pick c a b=>fP (TF (ev c) (ev a) (ev b))
 | .alloc t zero=>some (.aQ d (kP (ob d).cH t) 0,[(d,.box (kP (ob d).cH t) (zero.map kY))])
 | .box t x=>match(ev x).cells with
   |some cs=>some (.aQ d (kP (ob d).cH t) 0,[(d,.box (kP (ob d).cH t) cs)])
   |none=>none
 | .build zero ps=>match xH (zero.map kY) (ps.map λq=>(q.1,q.2.1,ev q.2.2)) with
   |some cs=>some (.agg cs,[])
   |none=>none
 | .oN e sz zero len ps bL=>match xG ob sz (List.replicate len (zero.map kY)) (ps.map λq=>(q.1,ev q.2)) with
   |some es=>some (.aV d (Nat.add (ob d).cH 1) 0 len,ps.flatMap (λp=>pI ob (ev p.2))++[(d,.aV (Nat.add (ob d).cH 1) e sz es bL)])
   |none=>none
 | .p9 m k _=>MX ob (ev m) (ev k)
 | .pY _ sz zero len ps=>MW ob sz (zero.map kY) len (ps.map λq=>(q.1,ev q.2))
 | .load isAgg n a=>fP (DC ob isAgg n (ev a))
 | .store n a v=>pN ob n (ev a) (ev v)
 | .sg x=>fP (TE (ev x))
 | .rR g x y=>fP (gR g (ev x) (ev y))
 | .rS neg x y=>fP (TA neg (ev x) (ev y))
 | .rZ neg x y=>fP (M2 neg (ev x) (ev y))
 | .r5 neg x=>fP (M4 neg (ev x))
 | .pd g x=>fP (H3 g (ev x))
 | .rU k x=>fP (qp k (ev x))
 | .qI x=>fP (tC ob (ev x))
 | .p8 e sz bytes zero l c=>rj d e sz bytes (ob d).cH (zero.map kY) (ev l) (ev c)
 | .sr x lo hi=>fP (M6 (ev x) (lo.map ev) (hi.map ev))
 | .ri sz x lo hi=>fP (DE ob sz (ev x) (lo.map ev) (hi.map ev))
 | .pW o x=>fP (TB o (ev x))
 | .r0 isAgg off n x=>fP (TC isAgg off n (ev x))
 | .qU sz x i=>fP (H1 ob sz (ev x) (ev i))
 | .sq x i=>fP (M5 (ev x) (ev i))
 | .ext x i=>fP (M3 (ev x) i)
 | .len kq x=>fP (TD kq (ev x))
 | .append e sz bytes s x bL=>ss ob d e sz bytes (ev s) (ev x) bL
 | .n7 e bytes s x bL=>match ev x with
   | .s l n=>bif CO (ev s) then none else ss ob d e 1 bytes (ev s) (.aN 1 (pJ l n)) bL
   |_=>none
 | .q0 j x y=>fP (rm j (ev x) (ev y))
 | .rO n sz x i=>fP (M1 n sz (ev x) (ev i))
 | .gE g x y=>fP (yF g (ev x) (ev y))
 | .bits g x y=>fP (lZ g (ev x) (ev y))
 | .sf f cR=>fP (AH f (cR.map ev))
 | .qZ=>some (.fX d (Nat.add (ob d).cH 1),[(d,.map (Nat.add (ob d).cH 1) [])])
 | .pD h m k v=>yD ob h (ev m) (ev k) (ev v)
 | .pC h r zero m k=>fP (u0 ob h r zero (ev m) (ev k))
 |_=>none
end
end
section
variable{n e bytes:Nat}{y:ao}{bL:Bool}
section
variable[Tok]
theorem qL(s:Nat)(cs:az):fz (.box s cs)= .box s (g0 cs):=rfl
theorem oP(s e sz:Nat)(es:bg)(bL:Bool):fz (.aV s e sz es bL)= .aV s e sz (lH es) bL:=rfl
theorem nJ(s:Nat)(es:List (Value×Value)):fz (.map s es)= .map s es:=rfl
theorem lp{x:Option ao}{v:ao}{us:fk}(h:fP x=some (v,us)):x=some v/\us=[]:=by unfold fP at h;split at h;cases h;exact⟨rfl,rfl⟩;cases h
theorem Z5:∀{ps:List (Nat×Nat×ao)}{cs hu:az},xH cs ps=some hu->qQ bk (g0 cs) ps=some (g0 hu)
 |[],cs,hu,h=>by cases h;rfl
 |(off,n,x)::r,cs,hu,h=>by
  simp only[xH]at h;split at h;rename_i new b;cases a:(Nat.beq new.length n&&Nat.ble (Nat.add off n) cs.length) with
  |false=>rw[a]at h;simp at h
  |true=>rw[a]at h;simp only[e6]at h;simp only[cC,k9]at a;have c:off+n<=cs.length:=dX a.2;simp only[qQ,Ge b,Gi];rw[dr ⟨a.1,c⟩,SO];exact Z5 h
  cases h
theorem Y9(es:bg)(i:Nat)(new:az):lH (es.set i new)=(lH es).set i (g0 new):=by simp only[oO,List.map_set]
theorem Q2{ob:dE}{sz:Nat}:∀{ps:List (Nat×ao)}{es ea:bg},xG ob sz es ps=some ea->mM bk (λk=>fz (ob k)) sz (lH es) ps=some (lH ea)
 |[],es,ea,h=>by cases h;rfl
 |(i,x)::r,es,ea,h=>by
  simp only[xG]at h;split at h;rename_i q b;split at h;rename_i new c;cases a:(Nat.beq new.length sz&&Nat.blt i es.length) with
  |false=>rw[a]at h;simp at h
  |true=>
   rw[a]at h;simp only[e6]at h;simp only[cC,k9]at a;have g:i<es.length:=by have:=a.2;simpa[AS] using this
   simp only[mM,Hn b,tH,Ge c,Gi,vH];rw[dr ⟨a.1,g⟩,<-Y9];exact Q2 h
  cases h;cases h
theorem Rh(es:bg)(i:Nat):(lH es)[i]? =(es[i]?).map g0:=by simp[oO]
theorem an3(es:az)(i:Nat):(g0 es)[i]? =(es[i]?).map bk:=by simp[ma]
theorem xr{α:Type}{ev:α->ao}{ju:Nat}{x:Option α}(h:rT ju (x.map ev)=some n):mG (λx=>bk (ev x)) ju x=some n:=by
 cases x with
 |none=>cases h;rfl
 |some y=>
  simp only[jH,rT]at h;split at h;rename_i a;cases a;rename_i k m a;simp only[dN]at a;cases b:Nat.ble 18446744073709551616 m with
  |false=>rw[b]at h;simp at h
  |true=>
   rw[b]at h;simp only[e6,dN]at h;subst h;have i:=dX b;have c:(0:Int)<=intOf m:=by unfold intOf;omega
   have g:(intOf m).toNat=m-18446744073709551616:=by unfold intOf;omega
   simp only[mG,a,bk];rw[dr c,g];rfl
  cases h
theorem zS(h:18446744073709551616<=n):(0:Int)<=intOf n/\(intOf n).toNat=n-18446744073709551616:=by unfold intOf;omega
section
variable{α:Type}{ev:α->ao}{ob:dE}{d:Nat}{v:ao}{us:fk}
theorem aub{isAgg:Bool}{a:α}(h:DC ob isAgg n (ev a)=some v):c9 (λx=>bk (ev x)) (λk=>fz (ob k)) d (.load isAgg n a)=some (bk v,[]):=by
 unfold DC at h;simp only[c9];split at h;rename_i k s off c;rw[c];simp only[bk];split at h;rename_i g cs j;cases b:Nat.beq s g with
 |false=>rw[b]at h;simp at h
 |true=>rw[b]at h;simp only[e6]at h;have e:=e8 b;simp only[j,qL,oP,nJ,e,gF,HQ h,jH]
 cases h;rename_i k s i off c;rw[c];simp only[bk];split at h;rename_i g e sz es bL j;cases b:Nat.beq s g with
 |false=>rw[b]at h;simp at h
 |true=>rw[b]at h;simp only[e6]at h;have e:=e8 b;split at h;rename_i cs l;simp only[j,qL,oP,nJ,e,gF,Rh,l,jH,tH,HQ h];cases h
 cases h;rename_i cs off c;rw[c];simp only[bk,HQ h,jH];cases h
theorem aud{a x:α}(h:pN ob n (ev a) (ev x)=some (v,us)):c9 (λx=>bk (ev x)) (λk=>fz (ob k)) d (.store n a x)=some (bk v,us.map iy):=by
 unfold pN at h;simp only[c9];split at h;rename_i k s off c;rw[c];simp only[bk];split at h;rename_i g cs new j l;cases b:(Nat.beq s g&&Nat.beq new.length n&&Nat.ble (Nat.add off n) cs.length) with
 |false=>rw[b]at h;simp at h
 |true=>rw[b]at h;simp only[e6,dN,h4]at h;obtain⟨rfl,rfl⟩:=h;simp only[cC,k9]at b;have o:off+n<=cs.length:=dX b.2;simp only[j,qL,oP,nJ,Ge l,Gi];rw[dr ⟨b.1.1,b.1.2,o⟩,SO];simp[bk,iy,qL,oP,nJ]
 cases h;rename_i k s i off c;rw[c];simp only[bk];split at h;rename_i g e sz es q j p;split at h;rename_i new cs l r;cases b:(Nat.beq s g&&Nat.beq new.length n&&Nat.ble (Nat.add off n) cs.length&&(ev x).dl.isEmpty) with
 |false=>rw[b]at h;simp at h
 |true=>rw[b]at h;simp only[e6,dN,h4]at h;obtain⟨rfl,rfl⟩:=h;simp only[cC,k9,List.isEmpty_iff]at b;have o:off+n<=cs.length:=dX b.1.2;simp only[j,qL,oP,nJ,Hn p,tH,Ge l,Rh,r,jH,Gi,p3];rw[dr ⟨b.1.1.1,b.1.1.2,o,b.2⟩,SO,<-Y9];simp[bk,iy,qL,oP,nJ]
 cases h;cases h;cases h
theorem ama[Tok](h:bk y= .undef):y= .undef:=by cases y<;>simp[bk,kv]at h;rfl;rename_i i;have:=Tok.p4 i;rw[h]at this;cases this
theorem acZ{sz:Nat}{s x:α}(h:ss ob d e sz bytes (ev s) (ev x) bL=some (v,us)):c9 (λx=>bk (ev x)) (λk=>fz (ob k)) d (.append e sz bytes s x bL)=some (bk v,us.map iy):=by
 unfold ss at h;simp only[c9];split at h;rename_i ys b c;rw[b];simp only[bk,kv,Kx c,vH];cases a:(Nat.ble (Nat.mul ys.length bytes) 1099511627776&&Nat.ble ys.length 1099511627776) with
 |false=>rw[a]at h;simp at h
 |true=>
  rw[a]at h;simp only[e6]at h;simp only[cC]at a;have q:ys.length*bytes<=1099511627776:=dX a.1;have g:ys.length<=1099511627776:=dX a.2;rw[dr ⟨q,g⟩];cases ys with
  |nil=>cases h;simp[bk,kv]
  |cons y r=>simp only[dN,h4]at h;obtain⟨rfl,rfl⟩:=h;simp[bk,iy,qL,oP,nJ,AD]
 rename_i k bZ len ys b c;rw[b];simp only[bk,Kx c,vH];split at h;rename_i t e' i es r u;cases a:(Nat.beq bZ t&&Nat.beq e' e&&Nat.beq i sz&&(Nat.beq len es.length||(r&&Nat.ble len es.length))&&Nat.ble (Nat.mul (Nat.add len ys.length) bytes) 1099511627776&&Nat.ble (Nat.add len ys.length) 1099511627776) with
 |false=>rw[a]at h;simp at h
 |true=>rw[a]at h;simp only[e6,dN,h4]at h;obtain⟨rfl,rfl⟩:=h;simp only[cC,k9,oA]at a;obtain⟨⟨⟨⟨⟨c1,j⟩,l⟩,o⟩,w⟩,z⟩:=a;have A:(len+ys.length)*bytes<=1099511627776:=dX w;have B:len+ys.length<=1099511627776:=dX z;have p:len=es.length\/r=true/\len<=es.length:=o.imp id (λh=>⟨h.1,dX h.2⟩);simp only[u,qL,oP,nJ,vH];rw[dr ⟨c1,j,l,p,A,B⟩];simp[bk,iy,qL,oP,nJ,oO]
 cases h;rename_i i es ys b c;rw[b];simp only[bk,g0,Kx c,vH];cases a:(Nat.beq i sz&&Nat.ble 1 ys.length&&Nat.ble (Nat.mul (Nat.add es.length ys.length) bytes) 1099511627776&&Nat.ble (Nat.add es.length ys.length) 1099511627776) with
 |false=>rw[a]at h;simp at h
 |true=>rw[a]at h;simp only[e6,dN,h4]at h;obtain⟨rfl,rfl⟩:=h;simp only[cC,k9]at a;obtain⟨⟨⟨c1,j⟩,l⟩,o⟩:=a;have g:0<ys.length:=dX j;have C:(es.length+ys.length)*bytes<=1099511627776:=dX l;have p:es.length+ys.length<=1099511627776:=dX o;rw[dr ⟨c1,g,C,p⟩];simp[bk,iy,qL,oP,nJ,oO,AD]
 cases h
theorem awQ(l n:Nat):lH (pJ l n)=mX (fd l n):=by
 unfold mX;rw[sV];induction l with
 |zero=>rfl
 |succ l a=>
  show lH ([.ag .u8 (Nat.add 18446744073709551616 (Nat.mod (Nat.div n (Nat.pow 256 l)) 256))]::pJ l n)=_;rw[oO,hN,<-oO,a];simp only[iq,hN,g0,bk,intOf];congr 3;have b:Nat.mod (Nat.div n (Nat.pow 256 l)) 256=n/256^l%256:=rfl;have c:(UInt8.ofNat (n/256^l)).toNat=n/256^l%256:=by simp
  rw[b,c];congr 1;show((18446744073709551616+n/256^l%256:Nat):Int)-18446744073709551616=_;omega
theorem al9[Tok]{ps:eb}(h:bk y= .bD ps):CO y=true:=by cases y<;>simp[bk,kv]at h;rfl;rename_i i;have:=Tok.p4 i;rw[h]at this;cases this
theorem aua{s x:α}{l:Nat}(j:ev x= .s l n)(c:CO (ev s)=false)(h:ss ob d e 1 bytes (ev s) (.aN 1 (pJ l n)) bL=some (v,us)):
 c9 (λx=>bk (ev x)) (λk=>fz (ob k)) d (.n7 e bytes s x bL)=some (bk v,us.map iy):=by
 have o:=acZ (α:=ao) (ev:=λx=>x) (s:=ev s) (x:= .aN 1 (pJ l n)) h;rw[<-o];simp only[c9,j,bk,mK,awQ,gF];have g:∀ps,bk (ev s)≠ .bD ps:=λps e=>by rw[al9 e]at c;cases c
 generalize bk (ev s)=p at g;generalize fd l n=b;have i:=HM b;split;rename_i b' a;cases a;simp only[i];rename_i k bZ len b' a;cases a;simp only[i];rename_i br dM;split;rename_i ys a;exact absurd rfl (br b rfl);rename_i k bZ len ys a;exact absurd rfl (dM k bZ len b rfl);exact absurd rfl (g _);rfl
theorem auc{r:dO α}(h:qh ev ob d r=some (v,us)):c9 (λx=>bk (ev x)) (λk=>fz (ob k)) d r=some (bk v,us.map iy):=by
 cases r with
 |qa x=>cases h;rfl
 |load isAgg n a=>obtain⟨g,rfl⟩:=lp h;exact aub g
 |store n a x=>exact aud h
 |p9 m k x=>
  simp only[qh]at h;unfold MX at h;simp only[c9];split at h;rename_i r s b2 br cc dM al ar;rw[al,ar];simp only[bk,g0];split at h;rename_i H I;cases j:Nat.beq s H with
  |false=>rw[j]at h;cases h
  |true=>rw[j]at h;have e:=e8 j;subst e;simp only[e6,dN,h4]at h;obtain⟨rfl,rfl⟩:=h;simp[I,nJ,bk,iy,fz]
  cases h;cases h
 |append e sz bytes s x bL=>exact acZ h
 |n7 e bytes s x bL=>
  simp only[qh]at h;split at h;rename_i l n K;cases R:CO (ev s) with
  |true=>rw[R]at h;cases h
  |false=>rw[R]at h;exact aua K R h
  cases h
 |pick c a b=>obtain⟨g,rfl⟩:=lp h;unfold TF at g;simp only[c9];split at g;rename_i u;cases g;simp only[u,bk];rfl;rename_i u;cases g;simp only[u,bk];rfl;cases g
 |alloc t zero=>simp only[qh,dN,h4]at h;obtain⟨rfl,rfl⟩:=h;simp[c9,bk,iy,qL,oP,nJ,AD,Gh]
 |box t x=>simp only[qh]at h;split at h;rename_i cs N;cases h;simp[c9,Ge N,bk,iy,qL,oP,nJ,AD];cases h
 |build zero ps=>simp only[qh]at h;split at h;rename_i cs N;cases h;have:=Z5 N;rw[Gh,Z7]at this;simp[c9,this,bk];cases h
 |oN e sz zero len ps bL=>simp only[qh]at h;split at h;rename_i es O;cases h;have:=Q2 O;rw[Q4,oO,DS,Gh]at this;simp only[c9,this,jH,bk,AD,oz,List.map_flatMap,hN,ny,iy,qL,oP,nJ];congr 3;congr 1;funext q;exact HH ob (ev q.2);cases h
 |pY e sz zero len ps=>simp only[qh,MW]at h;split at h;rename_i es O;cases h;have:=Q2 O;rw[Q4,oO,DS,Gh]at this;simp only[c9,this,jH,bk,List.map_flatMap,sx,oO];congr 2;congr 1;funext q;exact HH ob (ev q.2);cases h
 |sg x=>obtain⟨g,rfl⟩:=lp h;unfold TE at g;simp only[c9];split at g<;>first|(rename_i u;cases g;simp only[u,bk];rfl)|cases g
 |rR S x y=>obtain⟨g,rfl⟩:=lp h;obtain⟨a,b,z,F,G,J,L⟩:=axl g;simp[c9,F,G,J,L]
 |rO n sz x i=>
  obtain⟨g,rfl⟩:=lp h;unfold M1 at g;simp only[c9];split at g;rename_i k s off a1 m K hi;cases j:(Nat.ble 18446744073709551616 m&&Nat.ble (Nat.succ (Nat.sub m 18446744073709551616)) n) with
  |false=>rw[j]at g;cases g
  |true=>rw[j]at g;simp only[e6,dN]at g;subst g;simp only[cC]at j;have c1:18446744073709551616<=m:=dX j.1;have c2:m-18446744073709551616+1<=n:=dX j.2;obtain⟨F,G⟩:=zS c1;simp only[K,hi,bk];rw[dr ⟨F,by unfold intOf;omega⟩,G];rfl
  cases g
 |gE S x y=>obtain⟨g,rfl⟩:=lp h;obtain⟨a,b,z,F,G,J,L⟩:=ME g;simp[c9,F,G,J,L]
 |bits S x y=>obtain⟨g,rfl⟩:=lp h;obtain⟨a,b,z,F,G,J,L⟩:=ME g;simp[c9,F,G,J,L]
 |rS neg x y=>obtain⟨g,rfl⟩:=lp h;unfold TA at g;simp only[c9];split at g;rename_i a b A C;cases g;simp only[A,C,bk];rfl;cases g
 |rZ neg x y=>obtain⟨g,rfl⟩:=lp h;unfold M2 at g;simp only[c9];split at g;rename_i a n b m a' n' b' m' A C;cases g;simp only[A,C,bk,g0,zH];rfl;cases g
 |r5 neg x=>obtain⟨g,rfl⟩:=lp h;unfold M4 at g;simp only[c9];split at g<;>first|(rename_i u;cases g;simp only[u,bk,kv];rfl)|cases g
 |ext x i=>
  obtain⟨g,rfl⟩:=lp h;unfold M3 at g;simp only[c9];split at g;cases g;rename_i vs T u;simp only[u,bk];split;rename_i r E;exfalso;cases vs with
  |nil=>simp[g0]at E
  |cons y q=>simp only[g0,aT.bD.injEq,jQ]at E;exact T _ (by rw[ama E.1])
  rename_i cn _ E;cases E;simp only[an3,g,jH];rfl;rename_i h0;exact absurd rfl (h0 _);cases g
 |r0 isAgg off n x=>obtain⟨g,rfl⟩:=lp h;unfold TC at g;simp only[c9];split at g;rename_i cs u;simp only[u,bk,HQ g,jH];rfl;cases g
 |pW o x=>obtain⟨g,rfl⟩:=lp h;unfold TB at g;simp only[c9];split at g<;>first|(rename_i u;cases g;simp only[u,bk];rfl)|cases g
 |len kq x=>obtain⟨g,rfl⟩:=lp h;unfold TD at g;simp only[c9];split at g;rename_i l n u;cases g;simp only[u,bk,Kf,intOf];congr 4;simp only[h5];omega;rename_i u;cases g;simp only[u,bk,kv,intOf];rfl;rename_i sz es u;cases g;simp only[u,bk,vH,intOf];congr 4;simp only[h5];omega;rename_i k s off len u;cases g;simp only[u,bk,intOf];congr 4;simp only[h5];omega;cases g
 |pd S x=>obtain⟨g,rfl⟩:=lp h;unfold H3 at g;simp only[c9];split at g;rename_i a u;split at g;cases g;simp only[u,bk,HN];rfl;cases g;split at g;rename_i a A;rw[AR]at g;obtain⟨z,F,G⟩:=g;simp[Dz A,F,QN G];cases g
 |rU k x=>
  obtain⟨g,rfl⟩:=lp h;unfold qp at g;simp only[c9];split at g;rename_i Z n u;cases j:mP k n with
  |true=>rw[j]at g;cases g;simp only[u,bk,Rv j];rfl
  |false=>rw[j]at g;simp only[DM]at g;simp only[u,bk,QN g];rfl
  cases g
 |qI x=>
  obtain⟨g,rfl⟩:=lp h;unfold tC at g;simp only[c9];split at g;rename_i es O;split at g;rename_i l V;cases g;have a2:∀(es:bg) (l:List Nat),Cm es=some l->xv (lH es)=some (l.map UInt8.ofNat):=by
   intro es;induction es with
   |nil=>intro l h;cases h;simp[lH,xv]
   |cons e r a3=>
    intro l h;unfold Cm at h;split at h;rename_i E;cases E;rename_i n r' E;cases E;cases j:Nat.ble 18446744073709551616 n with
    |false=>rw[j]at h;simp at h
    |true=>rw[j]at h;simp only[e6]at h;split at h;rename_i l' a4;cases h;have B:=zS (dX j);simp only[lH,g0,bk,xv,a3 l' a4,jH,hN,B.2];rfl;cases h
    cases h
  simp only[Kx O,tH,a2 es l V,jH,bk,fd,ny];have:l.length=(l.map UInt8.ofNat).length:=by simp
  rw[this,zB];cases g;cases g
 |q0 a5 x y=>
  obtain⟨g,rfl⟩:=lp h;unfold rm at g;simp only[c9];split at g;rename_i k a Z b A C;cases j:uW k Z with
  |false=>rw[j]at g;simp at g
  |true=>
   rw[j]at g;have e:=adY j;subst e;simp only[e6,dN]at g;subst g;simp only[A,C,bk,gF];have bd:∀a b:Nat,Nat.blt a b=decide (a<b):=λa b=>by rw[n0];simp[AS]
   simp only[bd,ny];congr 4;cases a5;simp only[DM,io,hV];by_cases P:b<a;rw[dr (by unfold intOf;omega)];simp[P];rw[dU (by unfold intOf;omega)];simp[P];simp only[e6,gF];by_cases P:a<b;rw[dr (by unfold intOf;omega)];simp[P];rw[dU (by unfold intOf;omega)];simp[P]
  cases g
 |sf f cR=>
  obtain⟨g,rfl⟩:=lp h;unfold AH at g;simp only[c9];split at g;rename_i u;cases g;have:cR.length=0:=by simpa using oy List.length u
  rw[dr this];simp[bk];rename_i T;cases j:Qr (cR.map ev) with
  |false=>rw[j]at g;simp at g
  |true=>
   rw[j]at g;simp only[e6,dN]at g;subst g;have V:¬cR.length=0:=by intro e;exact T (by rw[AO.1 e];rfl)
   have hk:Ki (cR.map λx=>bk (ev x))=true:=by
    simp only[Qr,cC,kg,nC,ia]at j;simp only[Ki,cC,kg,nC,ia];refine⟨?_,?_⟩;rintro p ⟨x,K,rfl⟩;have:=j.1 (ev x) ⟨x,K,rfl⟩;cases Q:ev x with
    |bo w=>rw[Q]at this;unfold Qq at this;split at this;rename_i E;cases E;rename_i E;cases E;simp[bk,Ga];cases this
    |aQ=>simp[bk,Ga]
    |_=>rw[Q]at this;simp[Qq]at this
    obtain⟨p,⟨x,K,rfl⟩,D⟩:=j.2;refine⟨_,⟨x,K,rfl⟩,?_⟩;cases Q:ev x with
    |aQ=>simp[bk]
    |_=>rw[Q]at D;simp at D
   rw[dU V,dr hk];simp only[bk,ma,yK,ny];rfl
 |qZ=>simp only[qh,dN,h4]at h;obtain⟨rfl,rfl⟩:=h;simp[c9,bk,iy,nJ,AD]
 |pD W m k x=>
  simp only[qh]at h;unfold yD at h;simp only[c9];split at h;rename_i r s u;split at h;rename_i H es a b I A C;cases j:(Nat.beq s H&&mf W a&&es.all (λe=>k6 a e.1)&&iS b) with
  |false=>rw[j]at h;simp at h
  |true=>rw[j]at h;simp only[e6,dN,h4]at h;obtain⟨rfl,rfl⟩:=h;simp only[cC,k9]at j;simp only[u,bk,Dz A,Dz C,I,nJ];rw[dr ⟨j.1.1.1,j.1.1.2,j.1.2,j.2⟩];simp[bk,iy,nJ]
  cases h;cases h
 |pC W ok zero m k=>
  obtain⟨g,rfl⟩:=lp h;unfold u0 at g;simp only[c9];split at g;rename_i r s u;split at g;rename_i H es a I A;cases j:(Nat.beq s H&&mf W a&&es.all (λe=>k6 a e.1)) with
  |false=>rw[j]at g;simp at g
  |true=>rw[j]at g;simp only[e6]at g;simp only[cC,k9]at j;simp only[u,bk,Dz A,I,nJ];rw[dr ⟨j.1.1,j.1.2,j.2⟩];split at g;rename_i y X;cases g;rw[X];cases ok<;>simp[bk,g0,Gm];rename_i X;cases g;rw[X];cases ok<;>simp[bk,g0,Gm]
  cases g;cases g
 |sr x lo hi=>
  obtain⟨g,rfl⟩:=lp h;unfold M6 at g;simp only[c9];split at g;rename_i l n u;split at g;rename_i a b A C;cases j:(Nat.ble a b&&Nat.ble b l) with
  |false=>rw[j]at g;simp at g
  |true=>rw[j]at g;simp only[e6,dN]at g;subst g;simp only[cC]at j;have B:=dX j.1;have D:=dX j.2;simp only[u,bk,xr A,Kf,xr C];rw[dr ⟨B,D⟩,aj2 l n a b B D,<-aj3];rfl
  cases g;cases g
 |ri sz x lo hi=>
  obtain⟨g,rfl⟩:=lp h;unfold DE at g;simp only[c9];split at g;rename_i M es u;split at g;rename_i a b A C;cases j:(Nat.beq M sz&&Nat.ble a b&&Nat.ble b es.length) with
  |false=>rw[j]at g;simp at g
  |true=>rw[j]at g;simp only[e6,dN]at g;subst g;simp only[cC,k9]at j;have B:=dX j.1.2;have D:=dX j.2;simp only[u,bk,xr A,vH,xr C];rw[dr ⟨j.1.1,B,D⟩,L9,QE];rfl
  cases g;rename_i k s off len u;split at g;rename_i a b H e M es bL A C I;cases j:(Nat.beq s H&&Nat.beq M sz&&Nat.ble a b&&Nat.ble b len) with
  |false=>rw[j]at g;simp at g
  |true=>rw[j]at g;simp only[e6,dN]at g;subst g;simp only[cC,k9]at j;have B:=dX j.1.2;have D:=dX j.2;simp only[u,bk,xr A,xr C,I,oP];rw[dr ⟨j.1.1.1,j.1.1.2,B,D⟩];rfl
  cases g;rename_i u;split at g;rename_i A C;cases g;simp only[u,bk,kv,xr A,xr C];rfl;cases g;cases g
 |qU sz x i=>
  obtain⟨g,rfl⟩:=lp h;unfold H1 at g;simp only[c9];split at g;rename_i M es k n u hi;cases j:(Nat.beq M sz&&Nat.ble 18446744073709551616 n) with
  |false=>rw[j]at g;simp at g
  |true=>rw[j]at g;simp only[e6]at g;simp only[cC,k9]at j;have B:=zS (dX j.2);split at g;rename_i cs N;cases g;have bs:es[n-18446744073709551616]? =some cs:=N;simp only[u,hi,bk,B.2,Rh,bs,jH];rw[dr ⟨j.1,B.1⟩];rfl;cases g
  rename_i k s off len a1 n u hi;split at g;rename_i H e M es bL I;cases j:(Nat.beq s H&&Nat.beq M sz&&Nat.ble 18446744073709551616 n&&Nat.blt (Nat.sub n 18446744073709551616) len) with
  |false=>rw[j]at g;simp at g
  |true=>
   rw[j]at g;simp only[e6,dN]at g;subst g;simp only[cC,k9]at j;have B:=zS (dX j.1.2);have D:n-18446744073709551616<len:=by have:=j.2;simpa[AS] using this
   have Y:intOf n<(len:Int):=by have:=B.1;have:=B.2;omega
   simp only[u,hi,bk,I,oP];rw[dr ⟨j.1.1.1,j.1.1.2,B.1,Y⟩,B.2];rfl
  cases g;cases g
 |sq x i=>
  obtain⟨g,rfl⟩:=lp h;unfold M5 at g;simp only[c9];split at g;rename_i l n k m u hi;cases j:(Nat.ble 18446744073709551616 m&&Nat.blt (Nat.sub m 18446744073709551616) l) with
  |false=>rw[j]at g;simp at g
  |true=>
   rw[j]at g;simp only[e6,dN]at g;subst g;simp only[cC]at j;have B:=zS (dX j.1);have D:m-18446744073709551616<l:=by have:=j.2;simpa[AS] using this
   simp only[u,hi,bk,sV];rw[dr B.1,B.2,sW _ _ _ D];simp only[jH,ny];congr 4;rw[Ik];simp only[intOf,h5];show((n/256^(l-1-(m-18446744073709551616)) %256:Nat):Int)=((18446744073709551616+n/256^(l-1-(m-18446744073709551616)) %256:Nat):Int)-18446744073709551616;omega
  cases g
 |p8 e sz bytes zero l c=>
  simp only[qh]at h;unfold rj at h;simp only[c9];split at h;rename_i a b A C;cases j:(Nat.ble 18446744073709551616 a&&Nat.ble a b&&Nat.ble (Nat.mul (Nat.sub b 18446744073709551616) bytes) 1099511627776&&Nat.ble (Nat.sub b 18446744073709551616) 1099511627776) with
  |false=>rw[j]at h;simp at h
  |true=>
   rw[j]at h;simp only[e6,dN,h4]at h;obtain⟨rfl,rfl⟩:=h;simp only[cC]at j;have g:=dX j.1.1.1;have B:=dX j.1.1.2;have D:(b-18446744073709551616)*bytes<=1099511627776:=dX j.1.2;have Y:b-18446744073709551616<=1099511627776:=dX j.2;have F:=zS g;have G:=zS (jv g B);have J:intOf b=((b-18446744073709551616:Nat):Int):=by have:=G.1;have:=G.2;omega
   have L:intOf a<=intOf b:=by unfold intOf;omega
   have bx:intOf b*(bytes:Int)<=1099511627776:=by rw[J,<-wy];generalize (b-18446744073709551616)*bytes=z at D;omega
   have b1:intOf b<=1099511627776:=by rw[J];generalize b-18446744073709551616=z at Y;omega
   simp only[A,C,bk];rw[dr ⟨F.1,L,bx,b1⟩,F.2];simp only[hN,ny,iy,oP,AD,oO,DS,Gh,bk];rfl
  cases h
 |_=>cases h
end
end
end
section
variable{b k:Nat}
section
variable[Tok]
def awO{α a:Type}(f:α->a)(x:α):a:=f x
def S2{α:Type}(l:List α):List α->List α:= @List.rec α (λ_=>List α->List α) (λca=>ca) (λx _ a ca=>awO a (x::ca)) l
def rd{α:Type}(l:List α):List α:=S2 l []
theorem adO{α:Type}:∀(l ca:List α),S2 l ca=l.reverse++ca
 |[],_=>rfl
 |x::r,ca=>by show S2 r (x::ca)=_;rw[adO r];simp
theorem yw{α:Type}(l:List α):rd l=l.reverse:=by unfold rd;rw[adO,List.append_nil]
inductive fb where
 |ae (o:eQ)
 |o6 (s e sz:Nat) (rs:bg) (bL:Bool)
def fb.aj(s:fb):eQ:= @fb.rec (λ_=>eQ) (λo=>o) (λs e sz rs bL=> .aV s e sz (rd rs) bL) s
def C9:fb:= .ae (.aF 0)
inductive kR where
 |nil
 |cons (k:Nat) (o:fb) (r:kR)
inductive cD where
 |nil
 |cons (b:Nat) (l:kR) (r:cD)
def kR.get(l:kR)(k:Nat):fb:=
 @kR.rec (λ_=>fb) C9 (λa o _ g=> @Bool.rec (λ_=>fb) g o (Nat.beq a k)) l
def kR.zE(l:kR)(k:Nat):kR:=
 @kR.rec (λ_=>kR) .nil (λa o r g=> @Bool.rec (λ_=>kR) (.cons a o g) r (Nat.beq a k)) l
def cD.get(l:cD)(k:Nat):fb:=
 @cD.rec (λ_=>fb) C9 (λb l _ g=> @Bool.rec (λ_=>fb) g (l.get k) (Nat.ble b k)) l
def cD.set(l:cD)(k:Nat)(o:fb):cD:=
 @cD.rec (λ_=>cD) (.cons 0 (.cons k o .nil) .nil) (λb l r g=> @Bool.rec (λ_=>cD) (.cons b l g) (.cons b (.cons k o (l.zE k)) r) (Nat.ble b k)) l
def cD.drop(l:cD)(b:Nat):cD:=
 @cD.rec (λ_=>cD) .nil (λa l r g=> @Bool.rec (λ_=>cD) (.cons a l r) g (Nat.ble b a)) l
theorem xq{a:Nat}(h:b≠a):Nat.beq a b=false:=by
 cases c:Nat.beq a b with
 |true=>exact absurd (e8 c).symm h
 |false=>rfl
theorem F6(a:Nat):Nat.beq a a=true:=by simp
theorem kR.aaI:∀(l:kR) (k j:Nat),j≠k->(l.zE k).get j=l.get j
 | .nil,_,_,_=>rfl
 | .cons a o r,k,j,h=>by
   show kR.get (@Bool.rec (λ_=>kR) (.cons a o (r.zE k)) r (Nat.beq a k)) j= @Bool.rec (λ_=>fb) (r.get j) o (Nat.beq a j);cases c:Nat.beq a k with
   |true=>have e:=e8 c;subst e;rw[xq h]
   |false=>show @Bool.rec (λ_=>fb) ((r.zE k).get j) o (Nat.beq a j)=_;rw[kR.aaI r k j h]
theorem cD.CF:∀(l:cD) (k j:Nat) (o:fb),(l.set k o).get j=if j=k then o else l.get j
 | .nil,k,j,o=>by show @Bool.rec (λ_=>fb) C9 (@Bool.rec (λ_=>fb) C9 o (Nat.beq k j)) (Nat.ble 0 j)=_;have c:Nat.ble 0 j=true:=tF (pg j);rw[c];by_cases e:j=k;subst e;rw[F6,dr rfl];rw[xq e,dU e];rfl
 | .cons b l r,k,j,o=>by
   show cD.get (@Bool.rec (λ_=>cD) (.cons b l (r.set k o)) (.cons b (.cons k o (l.zE k)) r) (Nat.ble b k)) j=if j=k then o else @Bool.rec (λ_=>fb) (r.get j) (l.get j) (Nat.ble b j);cases a:Nat.ble b k with
   |true=>show @Bool.rec (λ_=>fb) (r.get j) (@Bool.rec (λ_=>fb) ((l.zE k).get j) o (Nat.beq k j)) (Nat.ble b j)=_;by_cases e:j=k;subst e;rw[a,dr rfl,F6];rw[xq e,dU e];show @Bool.rec (λ_=>fb) (r.get j) ((l.zE k).get j) (Nat.ble b j)=_;rw[kR.aaI l k j e]
   |false=>show @Bool.rec (λ_=>fb) ((r.set k o).get j) (l.get j) (Nat.ble b j)=_;rw[cD.CF r k j o];by_cases e:j=k;subst e;simp[a];rw[dU e,dU e]
theorem cD.uq(b:Nat):∀(l:cD) (k:Nat),k<b->(l.drop b).get k=l.get k
 | .nil,_,_=>rfl
 | .cons a l r,k,h=>by
   show cD.get (@Bool.rec (λ_=>cD) (.cons a l r) (r.drop b) (Nat.ble b a)) k= @Bool.rec (λ_=>fb) (r.get k) (l.get k) (Nat.ble a k);cases c:Nat.ble b a with
   |true=>
    have g:b<=a:=dX c;have d:Nat.ble a k=false:=by
     cases e:Nat.ble a k with
     |true=>have:=dX e;omega
     |false=>rfl
    rw[d];exact cD.uq b r k h
   |false=>rfl
def b9(ub:Nat)(l:cD):Nat->eQ:=λk=> @Bool.rec (λ_=>eQ) (.aF 0) (l.get k).aj (Nat.blt k ub)
theorem h7{ub:Nat}{l:cD}(h:k<ub:=by omega):b9 ub l k=(l.get k).aj:=by unfold b9;rw[m9,decide_eq_true h]
theorem mh{ub:Nat}{l:cD}(h:ub<=k:=by omega):b9 ub l k= .aF 0:=by unfold b9;rw[m9,decide_eq_false (Nat.not_lt.2 h)]
inductive aO where
 |mk (ub:Nat) (aC:cD) (dirty:List Nat)
def aO.ax(h:aO):Nat:= @aO.rec (λ_=>Nat) (λu _ _=>u) h
def aO.aB(h:aO):cD:= @aO.rec (λ_=>cD) (λ_ s _=>s) h
def aO.ck(h:aO):List Nat:= @aO.rec (λ_=>List Nat) (λ_ _ d=>d) h
def aO.am(h:aO):Nat->eQ:= @aO.rec (λ_=>Nat->eQ) (λu s _=>b9 u s) h
theorem aO.Sq(h:aO):h.am=b9 h.ax h.aB:=by cases h;rfl
def aO.jz(h:aO):Nat->Obj:=λk=>fz (h.am k)
def aO.yA(h:aO)(k:Nat):fb:= @aO.rec (λ_=>fb) (λu s _=> @Bool.rec (λ_=>fb) C9 (s.get k) (Nat.ble (Nat.succ k) u)) h
theorem aO.AB(h:aO)(k:Nat):(h.yA k).aj=h.am k:=by
 cases h with
 |mk u s d=>show(@Bool.rec (λ_=>fb) C9 (s.get k) (Nat.blt k u)).aj= @Bool.rec (λ_=>eQ) (.aF 0) (s.get k).aj (Nat.blt k u);cases Nat.blt k u<;>rfl
def aO.g1(b:Nat)(h:aO)(k:Nat)(o:fb):aO:=
 @aO.rec (λ_=>aO) (λu s d=> .mk u (s.set k o) (@Bool.rec (λ_=>List Nat) d (k::d) (Nat.blt k b))) h
structure ij (b:Nat) (h h':aO):Prop where
 ax:h.ax<=h'.ax
 ck:∀k∈h.ck,k∈h'.ck
 same:∀k,k<b->k∉h'.ck->h'.am k=h.am k
theorem ij.refl{h:aO}:ij b h h:=⟨dn _,λ_ h=>h,λ_ _ _=>rfl⟩
theorem ij.trans{b:Nat}{h h' c:aO}(p:ij b h h')(q:ij b h' c):ij b h c:=
 ⟨jv p.ax q.ax,λx a=>q.ck x (p.ck x a),λx a d=>(q.same x a d).trans (p.same x a (λhd=>d (q.ck x hd)))⟩
theorem aO.mu{h:aO}{o:fb}(c:k<h.ax):(h.g1 b k o).am=dk h.am k o.aj:=by
 cases h with
 |mk u s d=>
  have g:k<u:=c;funext j;show b9 u (s.set k o) j=dk (b9 u s) k o.aj j;simp only[dk];by_cases a:j<u;rw[h7 a,cD.CF,h7 a];split<;>rfl;have e:j≠k:=by omega
  rw[mh (by omega),dU e,mh (by omega)]
theorem aO.aeM{h:aO}{o:fb}(a:k<h.ax):(h.g1 b k o).jz=dk h.jz k (fz o.aj):=by funext j;show fz ((h.g1 b k o).am j)=_;rw[aO.mu a];simp only[dk];split<;>rfl
theorem aO.lY{h:aO}{o:fb}:(h.g1 b k o).ax=h.ax:=by cases h;rfl
theorem aO.aeN{h:aO}{o:fb}(c:k<h.ax):ij b h (h.g1 b k o):=by
 refine⟨by rw[aO.lY];exact dn _,λx a=>?_,λx a g=>?_⟩;cases h with
 |mk u s d=>
  show x∈ @Bool.rec (λ_=>List Nat) d (k::d) (Nat.blt k b);cases Nat.blt k b with
  |true=>exact ii _ a
  |false=>exact a
 rw[aO.mu c];have i:x≠k:=by
  intro e;subst e;apply g;cases h with
  |mk u s d=>show x∈ @Bool.rec (λ_=>List Nat) d (x::d) (Nat.blt x b);rw[m9,dJ a];exact fQ
 rw[h9 _ _ i]
def wK(b:Nat)(us:fk)(h h':aO):Prop:=ij b h h'/\h'.jz=fE h.jz (us.map iy)/\h'.ax=h.ax
end
end
section
variable{vs:az}{x:ao}{o:eQ}
section
variable[Tok]
inductive ay where
 |aF
 |ok (res:ao) (ub:Nat) (aC:cD) (dirty:List Nat)
abbrev gI:=ao->fk->ay
def dB:Nat:=0
def c8:Nat:=dB
def cX:Nat:=c8
def ih:Nat:=cX
def og:Nat:=ih
def nc:Nat:=og
def iH:Nat:=nc
def KT:Nat:=iH
def KU:Nat:=KT
def anU:Nat:=KU
def iM:Nat:=anU
def anL:Nat:=iM
def anM:Nat:=anL
def anN:Nat:=anM
def anO:Nat:=anN
def anP:Nat:=anO
def anQ:Nat:=anP
def Gx:Nat:=anQ
def aat:Nat:=Gx
def aau:Nat:=aat
def aav:Nat:=aau
def aaw:Nat:=aav
def aax:Nat:=aaw
def aay:Nat:=aax
def aaz:Nat:=aay
def anR:Nat:=aaz
def anS:Nat:=anR
def Rc:Nat:=anS
def CE:Nat:=Rc
def anT:Nat:=CE
def xK:Nat:=anT
def bB(c:Bool)(x y:ay):ay:= @Bool.rec (λ_=>ay) y x c
theorem fa{c:Bool}{x:ay}(h:bB c x .aF≠ .aF):c=true/\bB c x .aF=x:=by cases c;exact absurd rfl h;exact⟨rfl,rfl⟩
def c7(a b:Bool):Bool:= @Bool.rec (λ_=>Bool) false b a
theorem hY(a b:Bool):c7 a b=(a&&b):=by cases a<;>rfl
def gu(a:Bool):Bool:= @Bool.rec (λ_=>Bool) true false a
theorem Da(a:Bool):gu a= !a:=by cases a<;>rfl
def gc(n:Nat)(f:Nat->ay):ay:= @Nat.rec (λ_=>ay) (f 0) (λp _=>f (Nat.succ p)) n
theorem fN(n:Nat)(f:Nat->ay):gc n f=f n:=by cases n<;>rfl
section
variable{α:Type}
def eJ(l:List α):Nat:= @List.rec α (λ_=>Nat) 0 (λ_ _ n=>Nat.succ n) l
theorem gV:∀(l:List α),eJ l=l.length
 |[]=>rfl
 |_::r=>by show Nat.succ (eJ r)=_;rw[gV r];rfl
def HR(l:List α):List α:= @List.rec α (λ_=>List α) [] (λ_ t _=>t) l
theorem aev(l:List α):HR l=l.tail:=by cases l<;>rfl
def mb(n:Nat)(l:List α):List α:= @Nat.rec (λ_=>List α) l (λ_ r=>HR r) n
theorem xE:∀(n:Nat) (l:List α),mb n l=l.drop n
 |0,l=>rfl
 |n+1,l=>by show HR (mb n l)=_;rw[xE n l,aev,List.tail_drop]
def atK(l:List α)(f:α->ay):ay:= @List.rec α (λ_=>ay) .aF (λh _ _=>f h) l
def qb(n:Nat)(l:List α)(f:α->ay):ay:=atK (mb n l) f
theorem LR{n:Nat}{l:List α}{f:α->ay}(h:qb n l f≠ .aF):∃x,l[n]? =some x/\qb n l f=f x:=by
 unfold qb at h ⊢;rw[xE]at h ⊢;cases hd:l.drop n with
 |nil=>rw[hd]at h;exact absurd rfl h
 |cons x r=>refine⟨x,?_,rfl⟩;have:=u9 (xs:=l) (i:=n) (j:=0);rw[hd]at this;simpa using this.symm
def wl(n:Nat)(l:List α):List α:=
 @Nat.rec (λ_=>List α->List α) (λ_=>[]) (λ_ a l=> @List.rec α (λ_=>List α) [] (λh t _=>h::a t) l) n l
theorem MK:∀(n:Nat) (l:List α),wl n l=l.take n
 |0,_=>rfl
 |_+1,[]=>rfl
 |n+1,x::r=>by show x::wl n r=_;rw[MK n r];rfl
def L7(new cs:List α):List α:= @List.rec α (λ_=>List α->List α) (λcs=>cs) (λx _ a cs=>x::a (HR cs)) new cs
theorem acX:∀(new cs:List α),L7 new cs=new++cs.drop new.length
 |[],cs=>rfl
 |x::r,cs=>by show x::L7 r (HR cs)=_;rw[acX r,aev,List.drop_tail];rfl
def yo(off:Nat)(cs new:List α):List α:=
 @Nat.rec (λ_=>List α->List α) (λcs=>L7 new cs) (λ_ a cs=> @List.rec α (λ_=>List α) new (λh t _=>h::a t) cs) off cs
theorem Dk:∀(off:Nat) (cs new:List α),yo off cs new=cs.take off++new++cs.drop (off+new.length)
 |0,cs,new=>by show L7 new cs=_;rw[acX];simp
 |off+1,[],new=>by show new=_;simp
 |off+1,x::r,new=>by show x::yo off r new=_;rw[Dk off r new,show off+1+new.length=(off+new.length)+1 by omega];rfl
def mr(l:List α)(k:List α->ay):ay:= @List.rec α (λ_=>(List α->ay)->ay) (λk=>k []) (λh _ a k=>a λr=>k (h::r)) l k
theorem ms:∀(l:List α) (k:List α->ay),mr l k=k l
 |[],_=>rfl
 |x::r,k=>by show mr r (λr=>k (x::r))=_;rw[ms r]
def aZ(a b:List α):List α:= @List.rec α (λ_=>List α) b (λh _ c=>h::c) a
theorem kU:∀(a b:List α),aZ a b=a++b
 |[],_=>rfl
 |x::r,b=>by show x::aZ r b=_;rw[kU r b];rfl
def wh(l:List α)(i:Nat)(x:α):List α:=
 @Nat.rec (λ_=>List α->List α) (λl=> @List.rec α (λ_=>List α) [] (λ_ t _=>x::t) l) (λ_ a l=> @List.rec α (λ_=>List α) [] (λh t _=>h::a t) l) i l
theorem Te:∀(i:Nat) (l:List α) (x:α),wh l i x=l.set i x
 |0,[],_=>rfl
 |0,_::_,_=>rfl
 |_+1,[],_=>rfl
 |i+1,y::r,x=>by show y::wh r i x=_;rw[Te i r x];rfl
def eF(n:Nat)(x:α):List α:= @Nat.rec (λ_=>List α) [] (λ_ r=>x::r) n
theorem Dt(n:Nat)(x:α):eF n x=List.replicate n x:=by
 induction n with
 |zero=>rfl
 |succ n a=>show x::eF n x=_;rw[a];rfl
end
def mT(x:ao)(f:IntKind->Nat->ay):ay:=
 @ao.rec (λ_=>ay) (λ_=>PUnit) (λ_=>PUnit) .aF (λ_=> .aF) f (λ_ _=> .aF) .aF (λ_=> .aF) (λ_ _=> .aF) (λ_ _=> .aF) (λ_ _ _=> .aF) (λ_ _ _=> .aF) (λ_ _ _=> .aF) (λ_ _ _ _=> .aF) (λ_ _ _ _=> .aF) (λ_ _=> .aF) (λ_ _ _=> .aF) (λ_=> .aF) PUnit.unit (λ_ _ _ _=>PUnit.unit) PUnit.unit (λ_ _ _ _=>PUnit.unit) x
def yj(x:ao)(f:Bool->ay):ay:=
 @ao.rec (λ_=>ay) (λ_=>PUnit) (λ_=>PUnit) .aF f (λ_ _=> .aF) (λ_ _=> .aF) .aF (λ_=> .aF) (λ_ _=> .aF) (λ_ _=> .aF) (λ_ _ _=> .aF) (λ_ _ _=> .aF) (λ_ _ _=> .aF) (λ_ _ _ _=> .aF) (λ_ _ _ _=> .aF) (λ_ _=> .aF) (λ_ _ _=> .aF) (λ_=> .aF) PUnit.unit (λ_ _ _ _=>PUnit.unit) PUnit.unit (λ_ _ _ _=>PUnit.unit) x
def lU(x:ao)(f:Nat->Nat->ay):ay:=
 @ao.rec (λ_=>ay) (λ_=>PUnit) (λ_=>PUnit) .aF (λ_=> .aF) (λ_ _=> .aF) f .aF (λ_=> .aF) (λ_ _=> .aF) (λ_ _=> .aF) (λ_ _ _=> .aF) (λ_ _ _=> .aF) (λ_ _ _=> .aF) (λ_ _ _ _=> .aF) (λ_ _ _ _=> .aF) (λ_ _=> .aF) (λ_ _ _=> .aF) (λ_=> .aF) PUnit.unit (λ_ _ _ _=>PUnit.unit) PUnit.unit (λ_ _ _ _=>PUnit.unit) x
def yk(x:ao)(f:IntKind->Nat->ay)(g:Nat->Nat->ay):ay:=
 @ao.rec (λ_=>ay) (λ_=>PUnit) (λ_=>PUnit) .aF (λ_=> .aF) f g .aF (λ_=> .aF) (λ_ _=> .aF) (λ_ _=> .aF) (λ_ _ _=> .aF) (λ_ _ _=> .aF) (λ_ _ _=> .aF) (λ_ _ _ _=> .aF) (λ_ _ _ _=> .aF) (λ_ _=> .aF) (λ_ _ _=> .aF) (λ_=> .aF) PUnit.unit (λ_ _ _ _=>PUnit.unit) PUnit.unit (λ_ _ _ _=>PUnit.unit) x
def LZ(x:ao)(f:az->ay):ay:=
 @ao.rec (λ_=>ay) (λ_=>PUnit) (λ_=>PUnit) .aF (λ_=> .aF) (λ_ _=> .aF) (λ_ _=> .aF) .aF (λ_=> .aF) (λa _=>f a) (λ_ _=> .aF) (λ_ _ _=> .aF) (λ_ _ _=> .aF) (λ_ _ _=> .aF) (λ_ _ _ _=> .aF) (λ_ _ _ _=> .aF) (λ_ _=> .aF) (λ_ _ _=> .aF) (λ_=> .aF) PUnit.unit (λ_ _ _ _=>PUnit.unit) PUnit.unit (λ_ _ _ _=>PUnit.unit) x
def SD(x:ao)(f:az->ay):ay:=
 @ao.rec (λ_=>ay) (λ_=>PUnit) (λ_=>PUnit) .aF (λ_=> .aF) (λ_ _=> .aF) (λ_ _=> .aF) .aF (λ_=> .aF) (λ_ _=> .aF) (λa _=>f a) (λ_ _ _=> .aF) (λ_ _ _=> .aF) (λ_ _ _=> .aF) (λ_ _ _ _=> .aF) (λ_ _ _ _=> .aF) (λ_ _=> .aF) (λ_ _ _=> .aF) (λ_=> .aF) PUnit.unit (λ_ _ _ _=>PUnit.unit) PUnit.unit (λ_ _ _ _=>PUnit.unit) x
def pE(x:ao)(e:az->Nat->ay)(f:Nat->Nat->Nat->ay)(g:Nat->Nat->Nat->Nat->ay):ay:=
 @ao.rec (λ_=>ay) (λ_=>PUnit) (λ_=>PUnit) .aF (λ_=> .aF) (λ_ _=> .aF) (λ_ _=> .aF) .aF (λ_=> .aF) (λ_ _=> .aF) (λ_ _=> .aF) (λ_ _ _=> .aF) (λa b _=>e a b) f (λ_ _ _ _=> .aF) g (λ_ _=> .aF) (λ_ _ _=> .aF) (λ_=> .aF) PUnit.unit (λ_ _ _ _=>PUnit.unit) PUnit.unit (λ_ _ _ _=>PUnit.unit) x
def to(x:ao)(z:ay)(f:Nat->bg->ay)(g:Nat->Nat->Nat->Nat->ay):ay:=
 @ao.rec (λ_=>ay) (λ_=>PUnit) (λ_=>PUnit) .aF (λ_=> .aF) (λ_ _=> .aF) (λ_ _=> .aF) z (λ_=> .aF) (λ_ _=> .aF) (λ_ _=> .aF) (λa b _=>f a b) (λ_ _ _=> .aF) (λ_ _ _=> .aF) g (λ_ _ _ _=> .aF) (λ_ _=> .aF) (λ_ _ _=> .aF) (λ_=> .aF) PUnit.unit (λ_ _ _ _=>PUnit.unit) PUnit.unit (λ_ _ _ _=>PUnit.unit) x
def De(x:ao)(z:ay)(f:Nat->bg->ay)(g:Nat->Nat->Nat->Nat->ay)(t:az->ay):ay:=
 @ao.rec (λ_=>ay) (λ_=>PUnit) (λ_=>PUnit) .aF (λ_=> .aF) (λ_ _=> .aF) (λ_ _=> .aF) z (λ_=> .aF) (λ_ _=> .aF) (λa _=>t a) (λa b _=>f a b) (λ_ _ _=> .aF) (λ_ _ _=> .aF) g (λ_ _ _ _=> .aF) (λ_ _=> .aF) (λ_ _ _=> .aF) (λ_=> .aF) PUnit.unit (λ_ _ _ _=>PUnit.unit) PUnit.unit (λ_ _ _ _=>PUnit.unit) x
def LO(vs:az)(a:ay):ay:=
 @List.rec ao (λ_=>ay) .aF (λy _ _=> @ao.rec (λ_=>ay) (λ_=>PUnit) (λ_=>PUnit) .aF (λ_=>a) (λ_ _=>a) (λ_ _=>a) a (λ_=>a) (λ_ _=>a) (λ_ _=>a) (λ_ _ _=>a) (λ_ _ _=>a) (λ_ _ _=>a) (λ_ _ _ _=>a) (λ_ _ _ _=>a) (λ_ _=>a) (λ_ _ _=>a) (λ_=>a) PUnit.unit (λ_ _ _ _=>PUnit.unit) PUnit.unit (λ_ _ _ _=>PUnit.unit) y) vs
theorem arM{a:ay}(h:LO vs a≠ .aF):(∀r,vs≠ .undef::r)/\LO vs a=a:=by
 cases vs with
 |nil=>exact absurd rfl h
 |cons y r=>cases y<;>first|exact absurd rfl h|exact⟨λ_ e=>(by cases e),rfl⟩
def SE(vs:az)(f:Nat->bg->ay):ay:=
 @List.rec ao (λ_=>ay) .aF (λy r _=> @ao.rec (λ_=>ay) (λ_=>PUnit) (λ_=>PUnit) (@List.rec ao (λ_=>ay) .aF (λz q _=> @List.rec ao (λ_=>ay) (to z .aF f λ_ _ _ _=> .aF) (λ_ _ _=> .aF) q) r) (λ_=> .aF) (λ_ _=> .aF) (λ_ _=> .aF) .aF (λ_=> .aF) (λ_ _=> .aF) (λ_ _=> .aF) (λ_ _ _=> .aF) (λ_ _ _=> .aF) (λ_ _ _=> .aF) (λ_ _ _ _=> .aF) (λ_ _ _ _=> .aF) (λ_ _=> .aF) (λ_ _ _=> .aF) (λ_=> .aF) PUnit.unit (λ_ _ _ _=>PUnit.unit) PUnit.unit (λ_ _ _ _=>PUnit.unit) y) vs
theorem atO{f:Nat->bg->ay}(h:SE vs f≠ .aF):∃sz es,vs=[.undef,.aN sz es]/\SE vs f=f sz es:=by
 cases vs with
 |nil=>exact absurd rfl h
 |cons y r=>
  cases y<;>first|exact absurd rfl h|skip
  cases r with
  |nil=>exact absurd rfl h
  |cons z q=>
   cases q with
   |nil=>cases z<;>first|exact absurd rfl h|exact⟨_,_,rfl,rfl⟩
   |cons _ _=>exact absurd rfl h
def mS(o:eQ)(f:Nat->az->ay):ay:= @eQ.rec (λ_=>ay) (λ_=> .aF) f (λ_ _ _ _ _=> .aF) (λ_ _=> .aF) o
def lq(o:eQ)(f:Nat->Nat->Nat->bg->Bool->ay):ay:= @eQ.rec (λ_=>ay) (λ_=> .aF) (λ_ _=> .aF) f (λ_ _=> .aF) o
theorem tn{f:IntKind->Nat->ay}(h:mT x f≠ .aF):∃q n,x= .ag q n/\mT x f=f q n:=by cases x<;>first|exact absurd rfl h|exact⟨_,_,rfl,rfl⟩
theorem He{f:Bool->ay}(h:yj x f≠ .aF):∃c,x= .U c/\yj x f=f c:=by cases x<;>first|exact absurd rfl h|exact⟨_,rfl,rfl⟩
theorem tp{f:Nat->Nat->ay}(h:lU x f≠ .aF):∃l n,x= .s l n/\lU x f=f l n:=by cases x<;>first|exact absurd rfl h|exact⟨_,_,rfl,rfl⟩
theorem L3{f:IntKind->Nat->ay}{g:Nat->Nat->ay}(h:yk x f g≠ .aF):(∃q n,x= .ag q n/\yk x f g=f q n)\/(∃l n,x= .s l n/\yk x f g=g l n):=by cases x<;>first|exact absurd rfl h|exact .inl ⟨_,_,rfl,rfl⟩|exact .inr ⟨_,_,rfl,rfl⟩
theorem acQ{f:az->ay}(h:LZ x f≠ .aF):∃cs,x= .agg cs/\LZ x f=f cs:=by cases x<;>first|exact absurd rfl h|exact⟨_,rfl,rfl⟩
theorem atN{f:az->ay}(h:SD x f≠ .aF):∃cs,x= .bD cs/\SD x f=f cs:=by cases x<;>first|exact absurd rfl h|exact⟨_,rfl,rfl⟩
theorem Df{e:az->Nat->ay}{f:Nat->Nat->Nat->ay}{g:Nat->Nat->Nat->Nat->ay}(h:pE x e f g≠ .aF):
 (∃cs o,x= .gk cs o/\pE x e f g=e cs o)\/(∃k s o,x= .aQ k s o/\pE x e f g=f k s o)\/(∃k s i o,x= .eP k s i o/\pE x e f g=g k s i o):=by
 cases x<;>first|exact absurd rfl h|exact .inl ⟨_,_,rfl,rfl⟩|exact .inr (.inl ⟨_,_,_,rfl,rfl⟩)|exact .inr (.inr ⟨_,_,_,_,rfl,rfl⟩)
theorem Hh{z:ay}{f:Nat->bg->ay}{g:Nat->Nat->Nat->Nat->ay}(h:to x z f g≠ .aF):
 (x= .ba/\to x z f g=z)\/(∃sz es,x= .aN sz es/\to x z f g=f sz es)\/(∃k s o l,x= .aV k s o l/\to x z f g=g k s o l):=by
 cases x<;>first|exact absurd rfl h|exact .inl ⟨rfl,rfl⟩|exact .inr (.inl ⟨_,_,rfl,rfl⟩)|exact .inr (.inr ⟨_,_,_,_,rfl,rfl⟩)
theorem atL{z:ay}{f:Nat->bg->ay}{g:Nat->Nat->Nat->Nat->ay}{t:az->ay}(h:De x z f g t≠ .aF):
 (x= .ba/\De x z f g t=z)\/(∃sz es,x= .aN sz es/\De x z f g t=f sz es)\/(∃k s o l,x= .aV k s o l/\De x z f g t=g k s o l)\/∃vs,x= .bD vs/\De x z f g t=t vs:=by
 cases x<;>first|exact absurd rfl h|exact .inl ⟨rfl,rfl⟩|exact .inr (.inl ⟨_,_,rfl,rfl⟩)|exact .inr (.inr (.inl ⟨_,_,_,_,rfl,rfl⟩))|exact .inr (.inr (.inr ⟨_,rfl,rfl⟩))
theorem L1{f:Nat->az->ay}(h:mS o f≠ .aF):∃s cs,o= .box s cs/\mS o f=f s cs:=by cases o<;>first|exact absurd rfl h|exact⟨_,_,rfl,rfl⟩
theorem Ae{f:Nat->Nat->Nat->bg->Bool->ay}(h:lq o f≠ .aF):∃s e sz es r,o= .aV s e sz es r/\lq o f=f s e sz es r:=by cases o<;>first|exact absurd rfl h|exact⟨_,_,_,_,_,rfl,rfl⟩
def L6(k:IntKind):Nat:= @IntKind.rec (λ_=>Nat) 0 1 2 3 4 5 6 7 k
def pn(k a:IntKind):Bool:=Nat.beq (L6 k) (L6 a)
theorem zG{k a:IntKind}(h:pn k a=true):k=a/\uW k a=true:=by cases k<;>cases a<;>first|exact⟨rfl,rfl⟩|exact absurd h (by simp[pn,L6])
def ara(k:IntKind):Nat:= @IntKind.rec (λ_=>Nat) 18446744073709551488 18446744073709518848 18446744071562067968 9223372036854775808 18446744073709551616 18446744073709551616 18446744073709551616 18446744073709551616 k
def aop(k:IntKind):Nat:= @IntKind.rec (λ_=>Nat) 18446744073709551743 18446744073709584383 18446744075857035263 27670116110564327423 18446744073709551871 18446744073709617151 18446744078004518911 36893488147419103231 k
def zR(k:IntKind)(n:Nat):Bool:=c7 (Nat.ble (ara k) n) (Nat.ble n (aop k))
theorem xV(k:IntKind)(n:Nat):zR k n=mP k n:=by unfold zR;rw[hY];cases k<;>rfl
end
end
end Go.Hf
