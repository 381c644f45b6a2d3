import Derived.Test.YthiipifjdfmblaaGreatDoorAa
import Derived.WalkSpells
import Derived.Lib.AppendStr
set_option linter.all false
namespace Go.Hf
open Go.RowKit
section
variable{b m off:Nat} {agg:Bool} {p:aG} {x i:Operand} {us:iP}
section
variable{P:Program} {n B bs:Nat} {O:Nat->Prop} {gl:eI} {ph:ck×cD×World×List Deferred} {g:ck} {s:df} {a:Act} {w:World} {o:Oper} {K:Act->World->Prop} {Q:Exit->Act->World->Prop}
theorem cell_of_heap{j T:Nat}{aEE:Array Value}(h:w.heap[b]? =some (.cells aEE T (0,0))):w.cell? ⟨b,j,none⟩=aEE[j]? :=by simp[World.cell?,h]
theorem dT.FC{t:TypeId}(A:vB P t agg m){o':Nat}{cs:dA}(k:o8 agg m cs off=some p)
 (C:∀(j:Nat) (q:aG),cs[j]? =some q->∃u,w.cell? ⟨b,o'+j,none⟩=some u/\q.hK=true/\gf g w s.bo q u):
 ∃v,(loadVar t ⟨b,o'+off,none⟩).run P w= .ok v w/\dT g w s.bo p v:=by
 cases agg with
 |true=>
  simp only[o8,fP] at k;split at k
  ·rename_i J;cases k;have r:∀j,j<m->∃u,w.cell? ⟨b,o'+off+j,none⟩=some u/\∀q,cs[off+j]? =some q->q.hK=true/\gf g w s.bo q u:=by
    intro j d;have c:off+j<cs.length:=by omega
    obtain⟨u,y,D,z⟩:=C (off+j) cs[off+j] (dC c);refine⟨u,by rw[wT];exact y,λq e=>?_⟩;rw[dC c] at e;cases e;exact⟨D,z⟩
   let f:Nat->Value:=λj=>if d:j<m then(r j d).choose else undef;have E:∀j (d:j<m),w.cell? ⟨b,o'+off+j,none⟩=some (f j)/\∀q,cs[off+j]? =some q->q.hK=true/\gf g w s.bo q (f j):=by
    intro j d;have:f j=(r j d).choose:=by simp[f,d]
    rw[this];exact(r j d).choose_spec
   refine⟨.agg ((List.range m).map f).toArray,?_,?_⟩
   ·refine avf A b (o'+off) _ (by simp) (λj v G=>?_);simp only[fo,iL] at G;obtain⟨H,l,rfl⟩:=G;have c:j<m:=by
     rcases kW j m with h|h
     ·exact h
     ·rw[vg (by simpa using h)] at l;cases l
    have:H=j:=by simp[HO c] at l;exact l.symm
    subst this;exact(E H c).1
   ·refine .inr (.inr (.inl ⟨_,_,rfl,rfl,by simp;omega,λj q u e I=>?_⟩));have c:j<m:=by
     rcases kW j m with h|h
     ·exact h
     ·rw[vg (by simp;omega)] at e;cases e
    rw[nh,cv c,sp] at e;simp only[fo,HO c,jZ,dD] at I;subst I;exact(E j c).2 q e
  ·simp at k
 |false=>simp only[o8,iC,g8] at k;obtain⟨u,y,D,z⟩:=C off p k;exact⟨u,ar2 A _ u y,.inr (.inl z)⟩
theorem auR(h:ct gl ph n B O g s a w)(G:∀t,o.dst=some t->t<n)(hr:gA P o (.load agg m x))
 (c:b6 (c9 s.aC) s.bo (bs+o.dst.getD 0) (.load agg m x)=some (p,us))(H:gL gl ph n B O g w ⟨put s.aC o.dst p,c7 s.bo us⟩ K):o.wp P a w K Q:=by
 obtain⟨t,ho,I,hx⟩:=hr;have l:=h.fF hx;have J:∀(b o':Nat) (v:Value),a.eval x= .pointer (some ⟨b,o',none⟩)->(loadVar t ⟨b,o',none⟩).run P w= .ok v w->(execOp a.eval o).run P w= .ok (.value v) w:=by intro b o' v y z;simp only[execOp,ho,Instr.loadAt,y,Instr.sureAddr,fq,gU,gd,z]
 simp only[b6] at c;split at c
 ·rename_i k aM off A;rw[A] at l;obtain⟨_,a2,y,z⟩:=l.ju (by simp[aG.key,aG.cf]);split at c
  ·rename_i s' cs C;split at c
   ·rename_i L;subst L;simp only[iL,io] at c;obtain⟨Z,c,rfl,rfl⟩:=c;have D:=h.ig k;rw[C] at D;obtain⟨aEE,T,r1,a3,a4,a1⟩:=D;have M:=z cs C;obtain⟨v,r,E⟩:=dT.FC (s:=s) (g:=g) (w:=w) (b:=g.b3 k) (o':=0) I c (λj q d=>by obtain⟨u,N,R,S⟩:=a1 j q d;exact⟨u,by rw[kM,cell_of_heap r1];exact N,R,S⟩)
    rw[kM] at r;exact gj h G (J _ _ v (by rw[y,M]) r) E H
   ·simp at c
  ·simp at c
 ·rename_i k aM i off A;rw[A] at l;obtain⟨_,a2,y,z⟩:=l.ju (by simp[aG.key,aG.cf]);split at c
  ·rename_i s' e sz es aEQ C;split at c
   ·rename_i L;subst L;cases W:es[i]? with
    |none=>simp[W] at c
    |some cs=>
     simp only[W,tL,iL,io] at c;obtain⟨Z,c,rfl,rfl⟩:=c;have D:=h.ig k;rw[C] at D;obtain⟨aEE,r1,a3,a4,a1,fp,a5,ln,ni⟩:=D;have M:=z e sz es aEQ C;obtain⟨v,r,E⟩:=dT.FC (s:=s) (g:=g) (w:=w) (b:=g.b3 k) (o':=i*sz) I c (λj q d=>by obtain⟨u,N,R,S⟩:=a5 i j cs q W d;exact⟨u,by rw[cell_of_heap r1];exact N,R,.inl S⟩)
     exact gj h G (J _ _ v (by rw[y,M]) r) E H
   ·simp at c
  ·simp at c
 ·rename_i cs off A;rw[A] at l;simp only[iL,io] at c;obtain⟨Z,c,rfl,rfl⟩:=c;have e:=l.y5;cases X:a.eval x with
  |pointer q=>
   rw[X] at e;cases e with
   |ep bx hb hc cc cl hv=>rename_i b o';obtain⟨v,r,E⟩:=dT.FC (s:=s) (g:=g) (w:=w) (b:=b) (o':=o') I c (λj q d=>⟨bx j,cc j q d,cl j q d,.inl (hv j q d)⟩);exact gj h G (J _ _ v X r) E H
  |_=>rw[X] at e;cases e
 ·simp at c
theorem as9{l:Nat}(h:ct gl ph n B O g s a w)(y:∀t,o.dst=some t->t<n)(H:gA P o (.p6 l x))
 (d:b6 (c9 s.aC) s.bo (bs+o.dst.getD 0) (.p6 l x)=some (p,us))(z:gL gl ph n B O g w ⟨put s.aC o.dst p,c7 s.bo us⟩ K):o.wp P a w K Q:=by
 obtain⟨t,a1,a2,f,i,I,J,L,M,hi,N,R⟩:=H;have j:=h.fF R;have A:∀c:Addr,a.eval x= .pointer (some c)->(execOp a.eval o).run P w= .ok (.value (.pointer (some (c.add l)))) w:=by intro c r;simp only[execOp,I,Instr.fieldAt,fq,i7 J,gd,L,r,Instr.sureAddr,gU,fieldPlace,run_sizeOf hi,N,g8,M]
 simp only[b6] at d;split at d
 ·rename_i k aM off u;rw[u] at j;cases d;obtain⟨C,c,r,D⟩:=j.ju (by simp[aG.key,aG.cf]);refine gj (p:= .bn k aM (off+l)) h y (A c r) (.inr (.inl (.inr ⟨C,_,rfl,λcs E=>?_⟩))) z;rw[D cs E,add_lit]
 ·rename_i k aM i' off u;rw[u] at j;cases d;obtain⟨C,c,r,D⟩:=j.ju (by simp[aG.key,aG.cf]);refine gj (p:= .dH k aM i' (off+l)) h y (A c r) (.inr (.inl (.inr ⟨C,_,rfl,λe sz es aEQ E=>?_⟩))) z;rw[D e sz es aEQ E,add_lit,wT]
 ·rename_i cs off u;rw[u] at j;cases d;have e:=j.y5;cases G:a.eval x with
  |pointer q=>
   rw[G] at e;cases e with
   |ep S T W X Z hv=>refine gj h y (A _ G) (.inr (.inl (.inl ?_))) z;rw[add_lit,wT];exact .ep S T W X Z hv
  |_=>rw[G] at e;cases e
 ·simp at d
theorem aqk(h:ct gl ph n B O g s a w)(l:∀t,o.dst=some t->t<n)(L:gA P o (.p5 agg off m x))
 (c:b6 (c9 s.aC) s.bo (bs+o.dst.getD 0) (.p5 agg off m x)=some (p,us))(r:gL gl ph n B O g w ⟨put s.aC o.dst p,c7 s.bo us⟩ K):o.wp P a w K Q:=by
 obtain⟨t,X,Z,f,y,z,A,C,M,N⟩:=L;have D:=h.fF N;simp only[b6] at c;split at c
 ·rename_i cs e;rw[e] at D;simp only[iL,io] at c;obtain⟨R,c,rfl,rfl⟩:=c;obtain⟨vs,E,a1,G⟩:=D.x5;obtain⟨a2,d,hi,S,H,I,_⟩:=M;cases agg with
  |true=>
   simp only[o8,fP] at c;split at c
   ·rename_i a3;cases c;refine gj h l (v:= .agg ((vs.drop off).take m).toArray) ?_ (.inr (.inr (.inl ⟨_,_,rfl,rfl,by simp;omega,λj q u k e=>?_⟩))) r
    ·simp only[execOp,y,Instr.field,fq,i7 z,gd,A,E,asAgg,gU,part,yZ H,I,fP,run_sizeOf hi,S,C];simp[List.extract_eq_take_drop]
    ·rw[nh] at k e;split at k
     ·rename_i T;rw[cv T] at e;rw[sp] at k e;exact G _ q u k e
     ·cases k
   ·simp at c
  |false=>
   simp only[o8,iC,g8] at c;have J:off<vs.length:=by have:=(e6.1 c).1;omega
   have W:vs[off]? =some vs[off]:=dC J;refine gj h l (v:=vs[off]) ?_ (.inr (.inl (G off R _ c W).2)) r;simp only[execOp,y,Instr.field,fq,i7 z,gd,A,E,asAgg,gU,part,yZ H,I,iC,g8,C];simp[J]
 ·simp at c
theorem ajg(h:ct gl ph n B O g s a w)(q:∀t,o.dst=some t->t<n)(d:gA P o (.pJ x i))
 (c:b6 (c9 s.aC) s.bo (bs+o.dst.getD 0) (.pJ x i)=some (p,us))(r:gL gl ph n B O g w ⟨put s.aC o.dst p,c7 s.bo us⟩ K):o.wp P a w K Q:=by
 obtain⟨t,u,y,z,hi⟩:=d;have e:=h.fF z;have j:=h.fF hi;simp only[b6] at c;split at c
 ·rename_i str k m A C;rw[A] at e;rw[C] at j;split at c
  ·rename_i D;simp only[iL,io] at c;obtain⟨b,l,rfl,rfl⟩:=c;have G:m.toNat<str.size:=by have:=(e6.1 l).1;simpa using this
   have E:str[m.toNat]=b:=by have:=(e6.1 l).2;simp at this;exact this
   refine gj h q (v:= .int .u8 b.toNat) ?_ (.bu rfl) r;have d:=run_index_string (P:=P) w t str k m y;rw[dif_pos ⟨D,by omega⟩,E] at d;simp only[execOp,u,e.fB.1,j.fB.1,fq,d,gd,gU]
  ·simp at c
 ·simp at c
theorem arz{sz:Nat}(h:ct gl ph n B O g s a w)(S:∀t,o.dst=some t->t<n)(hr:gA P o (.ji sz x i))
 (d:b6 (c9 s.aC) s.bo (bs+o.dst.getD 0) (.ji sz x i)=some (p,us))(T:gL gl ph n B O g w ⟨put s.aC o.dst p,c7 s.bo us⟩ K):o.wp P a w K Q:=by
 obtain⟨t,e,c4,ho,a2,a3,a4,hx,hi⟩:=hr;have A:=h.fF hx;have C:=h.fF hi;have W:∀(k:IntKind) (m:Int) (D:Addr) (len E:Nat),a.eval i= .int k m->a.eval x= .slice (some D) len E->0<=m->m<len->
  (execOp a.eval o).run P w= .ok (.value (.pointer (some (D.add (m.toNat*sz))))) w:=by
  intro k m D len E r X G H;simp[execOp,ho,Instr.indexAt,r,asIntOf,i7 a2,X,G,H,run_sizeOf a3,a4]
 simp only[b6] at d;split at d
 ·rename_i u es k m I J;rw[I] at A;rw[J] at C;split at d
  ·rename_i L;obtain⟨M,L⟩:=L;subst M;simp only[iL,io] at d;obtain⟨cs,y,rfl,rfl⟩:=d;have r:=A.u3;have a5:m.toNat<es.length:=(e6.1 y).1;cases N:a.eval x with
   |slice q l c=>
    rw[N] at r;cases r with
    |aQ bx c5 dq hb R cc cl cn cp=>rename_i b o';refine gj h S (W k m _ _ _ C.fB.1 N L (by omega)) (.inr (.inl (.inl ?_))) T;rw[add_lit];have hl:=cc _ _ y;have h3:(m.toNat+1)*u<=es.length*u:=jJ u a5;rw[hW,m2] at h3;have h4:=R (by omega);refine eZ.ep (o:=o'+m.toNat*u) (off:=0) (bx m.toNat) hb (by omega) (λj p z=>?_) (λj p z=>cn _ _ _ _ y z) (λj p z=>cp _ _ _ _ y z);rw[wT];exact cl _ _ _ _ y z
   |_=>rw[N] at r;cases r
  ·simp at d
 ·rename_i k aM off len c0 m I J;rw[I] at A;rw[J] at C;split at d
  ·rename_i s' e' u es aEQ Z;split at d
   ·rename_i R;obtain⟨c1,M,G,H⟩:=R;subst c1;subst M;cases d;obtain⟨c2,b,o',E,r,X,ee,c3⟩:=A.ju (by simp[aG.key,aG.cf]);obtain⟨f1,f2,f3,f4⟩:=c3 _ _ _ _ Z;refine gj (p:= .dH k aM (off+m.toNat) 0) h S (W c0 m _ _ _ C.fB.1 r G H) (.inr (.inl (.inr ⟨c2,_,rfl,λem en eq ev a1=>?_⟩))) T;rw[Z] at a1;cases a1;rw[add_lit,f2,f3 (.inl (by omega)),sm,hW]
   ·simp at d
  ·simp at d
 ·simp at d
theorem azF{d:Bool}(h:ct gl ph n B O g s a w)(z:∀t,o.dst=some t->t<n)(I:gA P o (.pK d x))
 (k:b6 (c9 s.aC) s.bo (bs+o.dst.getD 0) (.pK d x)=some (p,us))(A:gL gl ph n B O g w ⟨put s.aC o.dst p,c7 s.bo us⟩ K):o.wp P a w K Q:=by
 obtain⟨t,L,e,y,G,J⟩:=I;have r:=h.fF J;have C:∀(q:Option Addr) (l c:Nat),a.eval x= .slice q l c->(execOp a.eval o).run P w= .ok (.value (.bool (xor d q.isNone))) w:=by
  intro q l c j;have H:a.eval (.const (.slice none 0 0))= .slice none 0 0:=rfl;cases d
  ·simp only[r5,iC,g8] at y;have D:=Lib.run_eql_slice_nil (P:=P) w t e q l c 0 0 G;simp only[execOp,y,j,H,eqGuard,fq,gU];simp;rw[D];simp
  ·simp only[r5,fP] at y;have D:=run_neq_slice_nil_any (P:=P) w t e q l c 0 0 G;simp only[execOp,y,j,H,eqGuard,fq,gU];simp;rw[D];simp
 simp only[b6] at k;split at k
 ·rename_i u;rw[u] at r;cases k;have:=C _ _ _ r.fB.1;refine gj h z (v:= .bool !d) (by rw[this];cases d<;>rfl) (.bu rfl) A
 ·rename_i sz es u;rw[u] at r;cases k;have j:=r.u3;cases E:a.eval x with
  |slice q l c=>rw[E] at j;cases j;have:=C _ _ _ E;refine gj h z (v:= .bool d) (by rw[this];cases d<;>rfl) (.bu rfl) A
  |_=>rw[E] at j;cases j
 ·rename_i u;rw[u] at r;cases k;obtain⟨_,b,o',M,j,_⟩:=r.ju (by simp[aG.key,aG.cf]);have:=C _ _ _ j;refine gj h z (v:= .bool d) (by rw[this];cases d<;>rfl) (.bu rfl) A
 ·simp at k
end
end
section
variable{x:Operand} {p:aG} {us:iP} {lo hi:Option Operand}
section
variable{P:Program} {n B bs:Nat} {O:Nat->Prop} {gl:eI} {ph:ck×cD×World×List Deferred} {g:ck} {s:df} {a:Act} {w:World} {o:Oper} {K:Act->World->Prop} {Q:Exit->Act->World->Prop}
theorem aqb{t:TypeId}{f1 f2:Field}(j:P.underlying t=some (.struct #[f1,f2]))(aS:f1.name≠ "_")(cZ:f2.name≠ "_")(eR:f1.offset=0)(r:f2.offset=1)
 (k:P.underlying f1.type=some .string)(l:P.underlying f2.type=some .string)(u:P.stoodInHeld t=false)(b c d e:ByteArray):
 (Op.equalIn 10000 t (.agg #[.string b,.string c]) (.agg #[.string d,.string e])).run P w= .ok (b.toList==d.toList&&c.toList==e.toList) w:=by
 have q:P.fieldsOf t= #[f1,f2]:=by simp[Program.fieldsOf,j]
 rw[run_equalIn_struct (P:=P) w 9999 t _ _ (by rw[q];exact j) u,q];have a1:(Op.equalIn 9999 f1.type (.string b) (.string d)).run P w= .ok (b.toList==d.toList) w:=run_equalIn_string (P:=P) w 9998 f1.type b d k;have a2:(Op.equalIn 9999 f2.type (.string c) (.string e)).run P w= .ok (c.toList==e.toList) w:=run_equalIn_string (P:=P) w 9998 f2.type c e l;have y:∀h i:Value,(part f1.type #[h,i] f1.offset).run P w= .ok h w:=by intro h i;simp[part,yZ k,Ax,eR]
 have z:∀h i:Value,(part f2.type #[h,i] f2.offset).run P w= .ok i w:=by intro h i;simp[part,yZ l,Ax,r]
 simp only[Op.eqFields,ne_eq,aS,cZ,not_false_eq_true,fP,fq,y,gd,a1];cases b.toList==d.toList
 ·simp
 ·simp only[iz,iC,g8,fq,z,gd,a2,yd];cases c.toList==e.toList<;>simp
theorem apo{b:Bool}{y:Operand}(h:ct gl ph n B O g s a w)(J:∀t,o.dst=some t->t<n)(L:gA P o (.qn b x y))
 (c:b6 (c9 s.aC) s.bo (bs+o.dst.getD 0) (.qn b x y)=some (p,us))(M:gL gl ph n B O g w ⟨put s.aC o.dst p,c7 s.bo us⟩ K):o.wp P a w K Q:=by
 obtain⟨t,cl,f1,f2,d,N,aS,cZ,eR,R,S,T,W,l,i,X⟩:=L;have r:=h.fF i;have u:=h.fF X;have z:∀{q:aG} {v:Value} {j k:ByteArray},q= .agg [.bu (.string j),.bu (.string k)]->dT g w s.bo q v->v= .agg #[.string j,.string k]:=by
  intro q v j k Z i;subst Z;obtain⟨vs,rfl,hl,e⟩:=i.x5
  match vs,hl with
  |[a3,a4],_=>have a1:=(e 0 _ a3 rfl rfl).2;have a2:=(e 1 _ a4 rfl rfl).2;have a5:=(dT.fB (.inr (.inl a1))).1;have bx:=(dT.fB (.inr (.inl a2))).1;rw[a5,bx]
 simp only[b6] at c;split at c
 ·rename_i A C D E cc e;rw[cc] at r;rw[e] at u;cases c;have G:=z rfl r;have H:=z rfl u;have I:=aqb (P:=P) (w:=w) N aS cZ eR R S T W A C D E;refine gj h J (v:= .bool (xor b (A.toList==D.toList&&C.toList==E.toList))) ?_ (.bu rfl) M;cases b
  ·simp only[r5,iC,g8] at d;simp only[execOp,d,G,H,fq,run_eqGuard_agg w .eql t x y _ _ l,gd,run_eql_struct,I,gU];simp
  ·simp only[r5,fP] at d;simp only[execOp,d,G,H,fq,run_eqGuard_agg w .neq t x y _ _ l,gd,run_neq_struct,I,gU];simp
 ·simp at c
def D6(aEH:Nat)(b:Option Value)(m:Nat):Prop:=(b=none/\m=aEH)\/∃k i,b=some (.int k i)/\0<=i/\m=i.toNat
theorem ct.uN(h:ct gl ph n B O g s a w){aEH m:Nat}{ox:Option Operand}(c:(nc ox).all cJ=true)(b:ls (c9 s.aC) aEH ox=some m):D6 aEH (ox.map a.eval) m:=by
 cases ox with
 |none=>simp only[ls,dD] at b;exact .inl ⟨rfl,b.symm⟩
 |some x=>
  have d:cJ x=true:=by simpa[nc] using c
  have e:=h.fF d;simp only[ls] at b;split at b
  ·rename_i k i j;rw[j] at e;split at b
   ·rename_i l;cases b;exact .inr ⟨k,i,by simp[e.fB.1],l,rfl⟩
   ·simp at b
  ·simp at b
theorem SG(b:Bool)(len c:Nat)(lo hi:Option Value)(l r:Nat)(z:D6 0 lo l)(A:D6 len hi r)(h:l<=r)(j:r<=c):
 (Instr.sliceBounds b len c lo hi none).run P w= .ok (l,r,c) w:=by
 have d:∀(e:BoundsCode) (k:IntKind) (i:Int) (y:Nat),0<=i->i.toNat<=y->(Instr.sliceBound (.int k i) y e).run P w= .ok i.toNat w:=by intro e k i y C D;exact run_sliceBound w k i y e C (by omega)
 rcases z with⟨rfl,rfl⟩|⟨k,i,rfl,q,rfl⟩<;>rcases A with⟨rfl,rfl⟩|⟨t,i',rfl,u,rfl⟩
 ·simp[Instr.sliceBounds]
 ·simp[Instr.sliceBounds,d _ t i' c u j]
 ·simp[Instr.sliceBounds,d _ k i r q h]
 ·simp[Instr.sliceBounds,d _ t i' c u j,d _ k i i'.toNat q h]
theorem agd(h:ct gl ph n B O g s a w)(k:∀t,o.dst=some t->t<n)(c:gA P o (.p9 x lo hi))
 (b:b6 (c9 s.aC) s.bo (bs+o.dst.getD 0) (.p9 x lo hi)=some (p,us))(q:gL gl ph n B O g w ⟨put s.aC o.dst p,c7 s.bo us⟩ K):o.wp P a w K Q:=by
 obtain⟨t,u,e,y,d⟩:=c;have i:=h.fF y;simp only[List.all_append,cg] at d;simp only[b6] at b;split at b
 ·rename_i str z;rw[z] at i;split at b
  ·rename_i l r A c;split at b
   ·rename_i j;cases b;refine gj h k (v:= .string (str.extract l r)) ?_ (.bu rfl) q;have C:=SG (P:=P) (w:=w) false str.size str.size _ _ l r (h.uN d.1 A) (h.uN d.2 c) j.1 j.2;simp only[execOp,u,i.fB.1,Option.map_none,fq,run_sliceAt_string w t _ _ _ _ e,Instr.slice,i7 e,gd];simp;rw[C];simp
   ·simp at b
  ·simp at b
 ·simp at b
theorem axN{sz:Nat}(h:ct gl ph n B O g s a w)(T:∀t,o.dst=some t->t<n)(D:gA P o (.o9 sz x lo hi))
 (d:b6 (c9 s.aC) s.bo (bs+o.dst.getD 0) (.o9 sz x lo hi)=some (p,us))(W:gL gl ph n B O g w ⟨put s.aC o.dst p,c7 s.bo us⟩ K):o.wp P a w K Q:=by
 obtain⟨t,e,i,ho,cl,cn,cp,hx,E⟩:=D;have J:=h.fF hx;simp only[List.all_append,cg] at E;have a1:∀(q:Option Addr) (len z l r:Nat),a.eval x= .slice q len z->D6 0 (lo.map a.eval) l->D6 len (hi.map a.eval) r->l<=r->r<=z->
  (execOp a.eval o).run P w= .ok (.value (.slice (if z=l then q else q.map (·.add (l*sz))) (r-l) (z-l))) w:=by
  intro q len z l r A G H h3 h4;have X:=SG (P:=P) (w:=w) true len z _ _ l r G H h3 h4;simp only[execOp,ho,A,Option.map_none,Instr.sliceAt,Instr.slice,fq,i7 cl,gd,X,run_sizeOf cn,cp,gU]
 simp only[b6] at d;split at d
 ·rename_i u es L;rw[L] at J;split at d
  ·rename_i l r M D;split at d
   ·rename_i c0;obtain⟨rfl,a2,ha⟩:=c0;cases d;have A:=J.u3;cases he:a.eval x with
    |slice q l' c=>
     rw[he] at A;cases A with
     |aQ c1 hf hm X hc c2 c3 c4 hv=>
      rename_i b o';have a4:((es.drop l).take (r-l)).length=r-l:=by simp;omega
      have Z:∀(k:Nat) (cs:dA),((es.drop l).take (r-l))[k]? =some cs->es[l+k]? =some cs/\k<r-l:=by
       intro k cs y;rw[nh] at y;split at y
       ·rename_i c5;rw[sp] at y;exact⟨y,c5⟩
       ·cases y
      refine gj h T (a1 _ _ _ l r he (h.uN E.1 M) (h.uN E.2 D) a2 (by omega)) (.inr (.inl (.inl ?_))) W;by_cases N:c=l
      ·rw[cv N];have hz:r-l=0:=by omega
       have dq:(es.drop l).take (r-l)=[]:=by rw[hz];simp
       rw[dq];have:(aG.aQ u [])= .aQ u []:=rfl;have a5:r-l=([]:kO).length:=by simpa using hz
       rw[a5];exact .aQ (λ_ _=>undef) (by simp) (by omega) X (by simp) (by simp) (by simp) (by simp) (by simp)
      ·rw[cU N];simp only[jZ,add_lit];have bx:eZ g.U w (.aQ u ((es.drop l).take (r-l))) (.slice (some ⟨b,o'+l*u,none⟩) ((es.drop l).take (r-l)).length (c-l)):=by
        refine .aQ (λk j=>c1 (l+k) j) (by omega) (by omega) X (λhn=>?_) (λk cs y=>c2 _ _ (Z k cs y).1) (λk j cs q y R=>?_) (λk j cs q y R=>c4 _ _ _ _ (Z k cs y).1 R) (λk j cs q y R=>hv _ _ _ _ (Z k cs y).1 R)
        ·have h5:=hc (by omega);rw[a4];have ee:(l+(r-l))*u<=es.length*u:=jJ _ (by omega);rw[hW] at ee;omega
        ·have:=c3 (l+k) j cs q (Z k cs y).1 R;rw[hW] at this;rw[show o'+l*u+(k*u+j)=o'+(l*u+k*u+j) by omega];exact this
       rw[a4] at bx;exact bx
    |_=>rw[he] at A;cases A
   ·simp at d
  ·simp at d
 ·rename_i k aM off len L;rw[L] at J;split at d
  ·rename_i l r s' e' u es aEQ M D a3;split at d
   ·rename_i hc;obtain⟨em,en,a2,a5⟩:=hc;subst em;subst en;cases d;obtain⟨cc,b,o',z,A,hw,hA,eq⟩:=J.ju (by simp[aG.key,aG.cf]);obtain⟨f1,f2,f3,f4⟩:=eq _ _ _ _ a3;have I:=a1 _ _ _ l r A (h.uN E.1 M) (h.uN E.2 D) a2 (by omega);by_cases N:z=l
    ·rw[cv N] at I;refine gj (p:= .az k aM (off+l) (r-l)) h T I (.inr (.inl (.inr ⟨cc,b,o',z-l,rfl,by omega,by omega,λev fn ge go S=>?_⟩))) W;rw[a3] at S;cases S;refine⟨by omega,f2,λC=>?_,λC=>?_⟩
     ·rcases C with C|C
      ·omega
      ·have G:off=0:=by omega
       have H:l=0:=by omega
       subst G;subst H;exact f3 (.inr rfl)
     ·have G:off=0:=by omega
      have H:l=0:=by omega
      subst H;simpa using f4 G
    ·rw[cU N] at I;simp only[jZ,add_lit] at I;refine gj (p:= .az k aM (off+l) (r-l)) h T I (.inr (.inl (.inr ⟨cc,b,o'+l*u,z-l,rfl,by omega,by omega,λev fn ge go S=>?_⟩))) W;rw[a3] at S;cases S;refine⟨by omega,f2,λC=>?_,λC=>?_⟩
     ·have gt:o'=off*u:=by
       rcases C with C|C
       ·exact f3 (.inl (by omega))
       ·exact f3 (.inr (by omega))
      rw[gt,hW]
     ·have G:off=0:=by omega
      have H:l=0:=by omega
      subst H;simpa using f4 G
   ·simp at d
  ·simp at d
 ·rename_i L;rw[L] at J;split at d
  ·rename_i M D;cases d;have A:=J.fB.1;have I:=a1 _ _ _ 0 0 A (h.uN E.1 M) (h.uN E.2 D) (cY _) (cY _);exact gj h T I (.bu rfl) W
  ·simp at d
 ·simp at d
end
end
section
variable{y:Go.Obj} {d cap t k aM sz m:Nat} {cs:dA} {p:aG} {us:iP} {x:Operand} {ob:cD} {v:Value}
section
variable{P:Program} {n B bs:Nat} {O:Nat->Prop} {gl:eI} {ph:ck×cD×World×List Deferred} {g:ck} {s:df} {a:Act} {w w':World} {o:Oper} {K:Act->World->Prop} {Q:Exit->Act->World->Prop}
theorem Oa(c:w'.heap=w.heap.push y){b:Nat}(e:b<w.heap.size):w'.heap[b]? =w.heap[b]? :=by rw[c,Array.getElem?_push,cz]
theorem Uf(b:w'.heap=w.heap.push y):w'.heap[w.heap.size]? =some y:=by rw[b,Array.getElem?_push,cv rfl]
def ck.new(g:ck)(w:World)(d cap:Nat):ck:=⟨dl g.U w.heap.size 0,dl g.b3 d w.heap.size,dl g.cap d cap⟩
theorem gk.push(g:ck)(h:w'.heap=w.heap.push y):gk g.U w (g.new w d cap).U w':=by
 refine⟨by rw[h];simp,λb e=>?_,λb i e hi=>?_⟩
 ·simp[ck.new,dl,Nat.ne_of_lt e]
 ·simp only[World.cell?,Oa h e]
theorem gn.push(h:ct gl ph n B O g s a w)(e:w'.heap=w.heap.push y)(i:w'.os=w.os)(j:w'.tape=w.tape)(l:w'.output=w.output):
 gn B O g.U w (g.new w d cap).U w':=by
 have r:=h.kK;refine⟨i,j,l,by rw[e];simp,λb q _=>Oa e (by omega),λb q _=>?_⟩;have:b≠w.heap.size:=by omega
 simp[ck.new,dl,this]
theorem fY.new(g:ck)(ob:cD)(w:World)(d cap:Nat)(x:Obj)(c:(ob d).cd<x.cd):fY g ob (g.new w d cap) (dl ob d x):=by
 intro k;by_cases h:k=d
 ·subst h;simp only[iM];refine⟨by omega,λcs b=>?_,λe sz es aEQ b=>?_,λes b=>?_⟩
  ·rw[b] at c;exact absurd c (As _)
  ·rw[b] at c;exact absurd c (As _)
  ·rw[b] at c;exact absurd c (As _)
 ·simp only[ir _ _ h];refine⟨cY _,λcs b=>⟨⟨cs,b⟩,?_⟩,λe sz es aEQ b=>⟨⟨es,aEQ,b,cY _⟩,?_,?_⟩,λes b=>⟨⟨es,b⟩,?_⟩⟩<;>simp[ck.new,dl,h]
theorem ct.new(h:ct gl ph n B O g s a w){y:Go.Obj}(d cap:Nat)(x:Obj)(r:(s.bo d).cd<x.cd)(b:w'.heap=w.heap.push y)
 (u:kR (g.new w d cap) w' (dl s.bo d x) d x):ct gl ph n B O (g.new w d cap) ⟨s.aC,dl s.bo d x⟩ a w':=by
 refine h.zp (dl s.bo d x) (· =d) (gk.push g b) (fY.new g s.bo w d cap x r) (λk c=>ir _ _ c) (λk i j=>?_) (λk c j=>?_)
 ·have e:=(h.jI k j).2;refine⟨by simp[ck.new,dl,i],by simp[ck.new,dl,i],by simp[ck.new,dl,Nat.ne_of_lt e],Oa b e⟩
 ·subst c;have A:=h.kK;refine⟨by rw[iM];exact u,.inl (by simp[ck.new,dl];omega),by rw[b];simp[ck.new,dl],λz l q=>?_⟩;rw[ir _ _ l] at q;have e:=(h.jI z q).2;simp[ck.new,dl,l];omega
theorem gf.new{ob:cD}(g:ck){y:Go.Obj}{d cap:Nat}{x:Obj}(b:(ob d).cd<x.cd)(c:w'.heap=w.heap.push y){p:aG}{v:Value}
 (h:gf g w ob p v):gf (g.new w d cap) w' (dl ob d x) p v:=h.step (gk.push g c) (fY.new g ob w d cap x b)
theorem VD(h:ct gl ph n B O g s a w)(e:∀t,o.dst=some t->t<n)(I:o.dst.isSome=true){T:Nat}{aEE:Array Value}
 (i:(execOp a.eval o).run P w= .ok (.value (.pointer (some ⟨w.heap.size,0,none⟩))) (w.alloc (.cells aEE T)))(l:aEE.size=cs.length)(r:T<65536)
 (z:∀(j:Nat) (q:aG),cs[j]? =some q->∃u,aEE[j]? =some u/\q.hK=true/\gf g w s.bo q u)
 (A:gL gl ph n B O g w ⟨put s.aC o.dst (.bn (bs+o.dst.getD 0) (jG (s.bo (bs+o.dst.getD 0)).cd T) 0),c7 s.bo [(bs+o.dst.getD 0,.box (jG (s.bo (bs+o.dst.getD 0)).cd T) cs)]⟩ K):o.wp P a w K Q:=by
 generalize bs+o.dst.getD 0=d at*;have b:(w.alloc (.cells aEE T)).heap=w.heap.push (.cells aEE T (0,0)):=rfl;have c:(s.bo d).cd<(Obj.box (jG (s.bo d).cd T) cs).cd:=aBu _ _;have C:=h.new (w':=w.alloc (.cells aEE T)) d 0 (.box (jG (s.bo d).cd T) cs) c b (by
  refine⟨aEE,T,?_,⟨l,aAg r⟩,?_,λj q D=>?_⟩
  ·simp only[ck.new,iM];exact Uf b
  ·simp[ck.new,dl]
  ·obtain⟨u,E,G,H⟩:=z j q D;exact⟨u,E,G,H.new g c b⟩)
 refine wK i (A _ _ _ (by exact C.put o.dst e (p:= .bn d (jG (s.bo d).cd T) 0) (v:= .pointer (some ⟨w.heap.size,0,none⟩)) (.inr (.inl (.inr ⟨by simp[dl,Obj.cd],_,rfl,λaEG _=>by simp[ck.new,dl]⟩)))) (gn.push h b rfl rfl rfl))
theorem aj0{zero:List Value}(h:ct gl ph n B O g s a w)(u:∀t,o.dst=some t->t<n)(A:gA P o (.alloc t zero))
 (c:b6 (c9 s.aC) s.bo (bs+o.dst.getD 0) (.alloc t zero)=some (p,us))(C:gL gl ph n B O g w ⟨put s.aC o.dst p,c7 s.bo us⟩ K):o.wp P a w K Q:=by
 obtain⟨D,E,G,sz,i,z,hi,H,e,_,_,I⟩:=A;simp only[b6] at c;cases c;refine VD h u G (aEE:=z.cells) (T:=t) ?_ ?_ E ?_ C
 ·simp only[execOp,D,Instr.alloc,fq,CE hi H,gd,newVar,newRow,run_newObj,gU]
 ·rw[<-e];simp
 ·intro j q l;simp only[fo,iL] at l;obtain⟨v,b,rfl⟩:=l;have r:iO v=true:=jl.1 I v (dr b);exact⟨v,by rw[<-e] at b;simpa using b,r,.inl (.bu r)⟩
theorem akd(h:ct gl ph n B O g s a w)(c:∀t,o.dst=some t->t<n)(e:gA P o (.box t x))
 (b:b6 (c9 s.aC) s.bo (bs+o.dst.getD 0) (.box t x)=some (p,us))(i:gL gl ph n B O g w ⟨put s.aC o.dst p,c7 s.bo us⟩ K):o.wp P a w K Q:=by
 obtain⟨l,r,z,A⟩:=e;have C:=h.fF A;simp only[b6] at b;split at b
 ·rename_i cs D;cases b;obtain⟨E,G⟩:=C.cells D;refine VD h c z (aEE:=(a.eval x).cells) (T:=t) ?_ (by simpa using E) r (λj q H=>?_) i
  ·simp only[execOp,l,Instr.box,fq,gd,newVar,newRow,run_newObj,gU]
  ·obtain⟨u,I,J⟩:=G j q H;exact⟨u,by simpa using I,J⟩
 ·simp at b
theorem ct.wz(h:ct gl ph n B O g s a w)(k:Nat)(x:Obj)(aEE:Array Value)(j:(s.bo k).fx)(N:g.U (g.b3 k)=0)
 (E:fY g s.bo g (dl s.bo k x))(G:kR g (w.setRow (g.b3 k) aEE) (dl s.bo k x) k x):
 ct gl ph n B O g ⟨s.aC,dl s.bo k x⟩ a (w.setRow (g.b3 k) aEE)/\gn B O g.U w g.U (w.setRow (g.b3 k) aEE):=by
 obtain⟨a1,a2,H,a4⟩:=D0 w (g.b3 k) aEE;have l:∀b,b≠g.b3 k->(w.setRow (g.b3 k) aEE).heap[b]? =w.heap[b]? :=λb q=>Ct w (g.b3 k) b aEE (λe=>q (by simpa using e));have I:gk g.U w g.U (w.setRow (g.b3 k) aEE):=by
  refine⟨by omega,λ_ _=>cY _,λb i q hi=>?_⟩;by_cases u:b=g.b3 k
  ·subst u;omega
  ·simp only[World.cell?,l b u]
 refine⟨h.zp (dl s.bo k x) (· =k) I E (λc J=>ir _ _ J) (λc r z=>?_) (λc r z=>?_),⟨a1,a2,H,by omega,λb q L=>l b ?_,λ_ _ _=>rfl⟩⟩
 ·exact⟨rfl,rfl,rfl,l _ (λe=>r (h.inj c k z j e))⟩
 ·subst r;refine⟨by rw[iM];exact G,(h.jI c j).1,by rw[a4];exact(h.jI c j).2,λM A C=>?_⟩;rw[ir _ _ A] at C;exactλe=>A (h.inj M c C j e)
 ·intro e;subst e;rcases(h.jI k j).1 with D|D
  ·omega
  ·exact L D
theorem gk.wz(g:ck)(w:World)(b:Nat)(aEE:Array Value)(j:g.U b=0):gk g.U w g.U (w.setRow b aEE):=by
 obtain⟨a1,a2,l,a4⟩:=D0 w b aEE;refine⟨by omega,λ_ _=>cY _,λc i q hi=>?_⟩;by_cases h:c=b
 ·subst h;omega
 ·simp only[World.cell?,Ct w b c aEE (λe=>h (by simpa using e))]
theorem fY.box(g:ck){aEG:dA}(h:ob k= .box aM cs):fY g ob g (dl ob k (.box aM aEG)):=by
 intro e;by_cases c:e=k
 ·subst c;rw[iM,h];exact⟨cY _,λ_ _=>⟨⟨cs,rfl⟩,rfl⟩,(λ_ _ _ _ b=>by cases b),(λ_ b=>by cases b)⟩
 ·rw[ir _ _ c];exact⟨cY _,λcs b=>⟨⟨cs,b⟩,rfl⟩,λ_ _ es aEQ b=>⟨⟨es,aEQ,b,cY _⟩,rfl,rfl⟩,λes b=>⟨⟨es,b⟩,rfl⟩⟩
theorem fY.az(g:ck){e:Nat}{es aEK:kO}{aEQ aER:Bool}(h:ob k= .az aM e sz es aEQ)(i:es.length<=aEK.length):fY g ob g (dl ob k (.az aM e sz aEK aER)):=by
 intro j;by_cases c:j=k
 ·subst c;rw[iM,h];refine⟨cY _,(λ_ b=>by cases b),λl q r u b=>?_,(λ_ b=>by cases b)⟩;cases b;exact⟨⟨es,aEQ,rfl,i⟩,rfl,rfl⟩
 ·rw[ir _ _ c];exact⟨cY _,λcs b=>⟨⟨cs,b⟩,rfl⟩,λ_ _ es aEQ b=>⟨⟨es,aEQ,b,cY _⟩,rfl,rfl⟩,λes b=>⟨⟨es,b⟩,rfl⟩⟩
theorem xc{α:Type}(l new:List α)(off j:Nat)(h:off+new.length<=l.length):
 (l.take off++new++l.drop (off+new.length))[j]? =if j<off then l[j]? else if j<off+new.length then new[j-off]? else l[j]? :=by
 simp only[O7,lh,ta,nh,sp];have e:min off l.length=off:=by omega
 rw[e];by_cases b:j<off
 ·simp[b,(by omega:j<off+new.length)]
 ·by_cases c:j<off+new.length
  ·simp[b,c]
  ·simp only[b,c,g8];congr 1;omega
theorem lP.s9(h:lP g ob p v):p.key≠[]:=by
 cases p with
 |gJ f aEF=>exact h.1
 |bn=>simp[aG.key,aG.cf]
 |az=>simp[aG.key,aG.cf]
 |dH=>simp[aG.key,aG.cf]
 |hG=>simp[aG.key,aG.cf]
 |_=>exact h.elim
theorem ac3{ob:cD}:∀{cs b:dA},(∀q∈cs,q.key=[])->oE ob cs=some b->b=cs
 |[],b,_,h=>by simp[oE] at h;exact h
 |p::ps,b,c,h=>by
  simp only[oE] at h;split at h
  ·rename_i q l r e;cases h;have i:q=p:=by have:=c p (by simp);cases p<;>simp_all [gV,aG.key,aG.cf]
   rw[i,ac3 (λq j=>c q (by simp[j])) e]
  ·simp at h
theorem dT.afy{q:aG}(h:dT g w ob p v)(c:p.cR=[])(b:is ob p=some q):q=p/\eZ g.U w p v:=by
 cases p with
 |bu u=>simp only[is,gV,dD] at b;obtain⟨rfl,A⟩:=h.fB;exact⟨b.symm,.bu A⟩
 |aQ sz es=>simp only[is,gV,dD] at b;exact⟨b.symm,h.u3⟩
 |ep cs off=>simp only[is,gV,dD] at b;exact⟨b.symm,h.y5⟩
 |agg cs=>
  simp only[aG.cR,aG.eg,s7] at c;simp only[is,iL] at b;obtain⟨G,C,rfl⟩:=b;rw[ac3 c C];obtain⟨vs,rfl,D,z⟩:=h.x5;have E:∀(j:Nat) (r:aG),cs[j]? =some r->∃u,vs[j]? =some u:=λj r e=>⟨vs[j]'(by have:=(e6.1 e).1;omega),dC _⟩;refine⟨rfl,.agg D (λj r e=>?_) (λj r u e i=>?_)⟩
  ·obtain⟨u,i⟩:=E j r e;exact(z j r u e i).1
  ·rcases(z j r u e i).2 with l|l
   ·exact l
   ·exact absurd (c r (dr e)) l.s9
 |undef=>simp[is,gV] at b
 |a0=>simp[is,gV] at b
 |bn=>simp[aG.cR,aG.eg,aG.key,aG.cf] at c
 |az=>simp[aG.cR,aG.eg,aG.key,aG.cf] at c
 |dH=>simp[aG.cR,aG.eg,aG.key,aG.cf] at c
 |hG=>simp[aG.cR,aG.eg,aG.key,aG.cf] at c
 |gJ=>simp[is,gV] at b
theorem Vm{i i' j off:Nat}(c:j<sz)(e:off+m<=sz)(h:i'≠i):¬(i*sz+off<=i'*sz+j/\i'*sz+j<i*sz+off+m):=by
 rcases Nat.lt_or_gt_of_ne h with b|b
 ·have:=jJ sz (show i'+1<=i from b);rw[hW,m2] at this;omega
 ·have:=jJ sz (show i+1<=i' from b);rw[hW,m2] at this;omega
theorem aiD{v:Operand}(h:ct gl ph n B O g s a w)(hd:∀t,o.dst=some t->t<n)(hr:gA P o (.store m x v))
 (D:b6 (c9 s.aC) s.bo (bs+o.dst.getD 0) (.store m x v)=some (p,us))(hk:gL gl ph n B O g w ⟨put s.aC o.dst p,c7 s.bo us⟩ K):o.wp P a w K Q:=by
 obtain⟨t,hw,ho,eq,hx,hv⟩:=hr;have ex:=h.fF hx;have ev:=h.fF hv;have fn:∀(b o':Nat) (cn:World),a.eval x= .pointer (some ⟨b,o',none⟩)->(storeVar t ⟨b,o',none⟩ (a.eval v)).run P w= .ok () cn->(execOp a.eval o).run P w= .ok .skip cn:=by intro b o' cn X Z;simp only[execOp,ho,Instr.storeAt,X,Instr.sureAddr,fq,gU,gd,Z]
 simp only[b6] at D;split at D
 ·rename_i k aM off cp;rw[cp] at ex;obtain⟨_,go,X,Z⟩:=ex.ju (by simp[aG.key,aG.cf]);split at D
  ·rename_i s' cs new L l;split at D
   ·rename_i hc;obtain⟨rfl,a1,gt⟩:=hc;cases D;obtain⟨I,a2⟩:=ev.cells l;have a3:=h.ig k;rw[L] at a3;obtain⟨aEE,T,r1,ha,R,a5⟩:=a3;have c0:=Z cs L;have c3:∀u∈(a.eval v).cells.toList,u.oneCell'=true:=by
     intro u c4;obtain⟨j,A⟩:=xE.1 c4;have S:j<new.length:=by have:=(e6.1 A).1;omega
     obtain⟨u',r,z,c⟩:=a2 j new[j] (dC S);rw[A] at r;cases r;exact c.pI z
    have c5:=aa9 (P:=P) (w:=w) eq (g.b3 k) off T aEE (a.eval v) r1 (by simpa[a1] using I) (by omega) c3;have dq:(s.bo k).fx:=by rw[L];trivial
    let E:Array Value:=(aEE.toList.take off++(a.eval v).cells.toList++aEE.toList.drop (off+m)).toArray;have W:=fY.box g (aEG:=mO cs off new) L;have M:=gk.wz g w (g.b3 k) E R;have a4:=h.wz k (.box aM (mO cs off new)) E dq R W (by
     refine⟨E,T,wo w (g.b3 k) aEE E T (0,0) r1,?_,R,λj q G=>?_⟩
     ·simp[E,mO];simp at I;omega
     ·have hb:=xc cs new off j (by omega);have bx:=xc aEE.toList (a.eval v).cells.toList off j (by rw[I];simp;omega);simp only[mO] at G;rw[hb] at G;have he:E[j]? =(aEE.toList.take off++(a.eval v).cells.toList++aEE.toList.drop (off+(a.eval v).cells.toList.length))[j]? :=by simp only[E,I,a1];simp
      rw[he,bx];rw[I];by_cases c1:j<off
      ·rw[cv c1] at G ⊢;obtain⟨u,r,z,c⟩:=a5 j q G;exact⟨u,by simpa using r,z,c.step M W⟩
      ·rw[cU c1] at G ⊢;by_cases c2:j<off+new.length
       ·rw[cv c2] at G ⊢;obtain⟨u,r,z,c⟩:=a2 (j-off) q G;exact⟨u,r,z,c.step M W⟩
       ·rw[cU c2] at G ⊢;obtain⟨u,r,z,c⟩:=a5 j q G;exact⟨u,by simpa using r,z,c.step M W⟩)
    refine Vd (fn _ _ _ (by rw[X,c0]) c5) (hk g _ _ (a4.1.put o.dst hd (.inl rfl)) a4.2)
   ·simp at D
  ·simp at D
 ·rename_i k aM i off cp;rw[cp] at ex;obtain⟨_,go,X,Z⟩:=ex.ju (by simp[aG.key,aG.cf]);split at D
  ·rename_i s' e sz es new L l;split at D
   ·rename_i cs cc;split at D
    ·rename_i hc;obtain⟨rfl,a1,gt,C⟩:=hc;cases D;have a3:=h.ig k;rw[L] at a3;obtain⟨aEE,r1,ha,R,a5,fp,ee,ln,ni⟩:=a3;have c0:=Z e sz es true L;have hz:=fp i cs cc;have hf:i<es.length:=(e6.1 cc).1;simp only[zd] at l;obtain⟨hA,em,l⟩:=l;obtain⟨rfl,hh⟩:=ev.afy C em;have hi:dT g w (λ_=>Obj.ax 0) (c9 s.aC v) (a.eval v):= .inr (.inl (.inl hh));obtain⟨I,a2⟩:=hi.cells l;have hl:∀(j:Nat) (q:aG),new[j]? =some q->∃u,(a.eval v).cells.toList[j]? =some u/\q.hK=true/\eZ g.U w q u:=by
      intro j q G;obtain⟨u,r,z,c⟩:=a2 j q G;refine⟨u,r,z,?_⟩;rcases c with c|c
      ·exact c
      ·exfalso;have N:q∈new:=dr G;have:q.key=[]:=by
        cases H:c9 s.aC v with
        |agg aEG=>rw[H] at C l;simp only[aG.cR,aG.eg,s7] at C;simp only[aG.cells,dD] at l;subst l;exact C q N
        |bu _=>rw[H] at C l;simp only[aG.cells,dD] at l;subst l;simp at N;subst N;exact C
        |aQ _ _=>rw[H] at C l;simp only[aG.cells,dD] at l;subst l;simp at N;subst N;exact C
        |ep _ _=>rw[H] at C l;simp only[aG.cells,dD] at l;subst l;simp at N;subst N;exact C
        |undef=>rw[H] at l;simp[aG.cells] at l
        |a0 _=>rw[H] at l;simp[aG.cells] at l
        |hG _ _=>rw[H] at C;simp[aG.cR,aG.eg,aG.key,aG.cf] at C
        |gJ _ _=>rw[H] at em;simp[is,gV] at em
        |bn _ _ _=>rw[H] at C;simp[aG.cR,aG.eg,aG.key,aG.cf] at C
        |az _ _ _ _=>rw[H] at C;simp[aG.cR,aG.eg,aG.key,aG.cf] at C
        |dH _ _ _ _=>rw[H] at C;simp[aG.cR,aG.eg,aG.key,aG.cf] at C
       exact c.s9 this
     have cl:g.U (g.b3 k)=0:=ln rfl;have c3:∀u∈(a.eval v).cells.toList,u.oneCell'=true:=by
      intro u c4;obtain⟨j,A⟩:=xE.1 c4;have S:j<new.length:=by have:=(e6.1 A).1;omega
      obtain⟨u',r,z,c⟩:=a2 j new[j] (dC S);rw[A] at r;cases r;exact c.pI z
     have hm:(i+1)*sz<=es.length*sz:=jJ sz hf;rw[hW,m2] at hm;have h1:es.length*sz<=g.cap k*sz:=jJ sz R;have c5:=aa9 (P:=P) (w:=w) eq (g.b3 k) (i*sz+off) e aEE (a.eval v) r1 (by simpa[a1] using I) (by omega) c3;have dq:(s.bo k).fx:=by rw[L];trivial
     let E:Array Value:=(aEE.toList.take (i*sz+off)++(a.eval v).cells.toList++aEE.toList.drop (i*sz+off+m)).toArray;have W:=fY.az g (aEK:=es.set i (mO cs off new)) (aER:=true) L (by simp);have M:=gk.wz g w (g.b3 k) E cl;have hn:(mO cs off new).length=sz:=by simp[mO];omega
     have ge:∀j,E[j]? =if j<i*sz+off then aEE[j]? else if j<i*sz+off+m then(a.eval v).cells.toList[j-(i*sz+off)]? else aEE[j]? :=by intro j;have bx:=xc aEE.toList (a.eval v).cells.toList (i*sz+off) j (by rw[I];simp;omega);rw[I,a1] at bx;simp only[E,Bx,bx,xb]
     have a4:=h.wz k (.az aM e sz (es.set i (mO cs off new)) true) E dq cl W (by
      refine⟨E,wo w (g.b3 k) aEE E e (0,0) r1,?_,by simpa using R,a5,λi' aEG J=>?_,λi' j aEG q J A=>?_,λ_=>cl,by rw[cl];omega⟩
      ·simp[E];simp at I;omega
      ·rw[EY] at J;split at J
       ·cases J;exact hn
       ·exact fp i' aEG J
      ·rw[EY] at J;split at J
       ·rename_i en;subst en
        ·cases J;have S:j<sz:=by have:=(e6.1 A).1;omega
         simp only[mO] at A;rw[xc cs new off j (by omega)] at A;rw[ge];by_cases c1:j<off
         ·rw[cv c1] at A;rw[fS];obtain⟨u,r,z,c⟩:=ee i j cs q cc A;exact⟨u,r,z,c.mono M⟩
         ·rw[cU c1] at A;rw[cz];by_cases c2:j<off+new.length
          ·rw[cv c2] at A;rw[fS];obtain⟨u,r,z,c⟩:=hl (j-off) q A;exact⟨u,by rw[show i*sz+j-(i*sz+off)=j-off by omega];exact r,z,c.mono M⟩
          ·rw[cU c2] at A;rw[cz];obtain⟨u,r,z,c⟩:=ee i j cs q cc A;exact⟨u,r,z,c.mono M⟩
       ·rename_i en;have S:j<sz:=by have:=(e6.1 A).1;have:=fp i' aEG J;omega
        have h2:=Vm (i:=i) (i':=i') (sz:=sz) (j:=j) (off:=off) (m:=m) S (by omega) (λx=>en x.symm);rw[ge];obtain⟨u,r,z,c⟩:=ee i' j aEG q J A;refine⟨u,?_,z,c.mono M⟩;by_cases c1:i'*sz+j<i*sz+off
        ·rw[cv c1];exact r
        ·rw[cU c1,cz];exact r)
     refine Vd (fn _ _ _ (by rw[X,c0]) c5) (hk g _ _ (a4.1.put o.dst hd (.inl rfl)) a4.2)
    ·simp at D
   ·simp at D
  ·simp at D
 ·simp at D
end
end
section
variable{R:aG->Value->Prop}
def oU(aEE:Array Value)(off:Nat):List Value->Array Value
 |[]=>aEE
 |v::vs=>oU (aEE.setIfInBounds off v) (off+1) vs
theorem ad8(off:Nat):∀(vs:List Value) (m:Nat) (aEE:Array Value),(vs.zipIdx m).foldl (λ(cs:Array Value) (x:Value×Nat)=>cs.setIfInBounds (off+x.2) x.1) aEE=oU aEE (off+m) vs
 |[],_,_=>rfl
 |v::vs,m,aEE=>by simp only[List.zipIdx_cons,List.foldl_cons,oU];exact ad8 off vs (m+1) _
theorem J4:∀(vs:List Value) (off:Nat) (aEE:Array Value),(oU aEE off vs).size=aEE.size
 |[],_,_=>rfl
 |v::vs,off,aEE=>by simp only[oU];rw[J4 vs];simp
theorem N6:∀(vs:List Value) (off:Nat) (aEE:Array Value) (k:Nat),off+vs.length<=aEE.size->
 (oU aEE off vs)[k]? =if k<off then aEE[k]? else if k<off+vs.length then vs[k-off]? else aEE[k]?
 |[],off,aEE,k,_=>by simp[oU];omega
 |v::vs,off,aEE,k,h=>by
  simp only[oU];rw[N6 vs (off+1) _ k (by simp at h ⊢;omega)];simp only[h9] at h ⊢;rw[OB];by_cases b:k<off
  ·rw[fS,cz,cv b]
  ·by_cases d:k=off
   ·subst d;rw[fS,cv rfl,fS,cU b,fS];simp
   ·rw[cU (by omega:¬k<off+1),cU (by omega:¬off=k),cU b];by_cases c:k<off+1+vs.length
    ·rw[cv c,fS];rw[show k-off=(k-(off+1))+1 by omega,DD]
    ·rw[cU c,cz]
section
variable{P:Program} {n B bs:Nat} {O:Nat->Prop} {gl:eI} {ph:ck×cD×World×List Deferred} {g:ck} {s:df} {a:Act} {w w':World} {o:Oper} {K:Act->World->Prop} {Q:Exit->Act->World->Prop}
def rY(R:aG->Value->Prop)(cs:dA)(aEE:Array Value):Prop:=
 aEE.size=cs.length/\∀(j:Nat) (q:aG),cs[j]? =some q->∃u,aEE[j]? =some u/\q.hK=true/\R q u
theorem rY.zero(e:∀v,iO v=true->R (.bu v) v){zero:List Value}(h:zero.all iO=true):rY R (zero.map aG.bu) zero.toArray:=by refine⟨by simp,λj q b=>?_⟩;simp only[fo,iL] at b;obtain⟨v,c,rfl⟩:=b;have d:iO v=true:=jl.1 h v (dr c);exact⟨v,by simpa using c,d,e v d⟩
theorem rY.put{cs new:dA}{aEE:Array Value}{vs:List Value}{off:Nat}(h:rY R cs aEE)(c:vs.length=new.length)(d:off+new.length<=cs.length)
 (e:∀(j:Nat) (q:aG),new[j]? =some q->∃u,vs[j]? =some u/\q.hK=true/\R q u):rY R (mO cs off new) (oU aEE off vs):=by
 refine⟨by rw[J4,h.1];simp[mO];omega,λj q b=>?_⟩;simp only[mO] at b;rw[xc cs new off j d] at b;rw[N6 vs off aEE j (by rw[h.1,c];exact d),c];by_cases c1:j<off
 ·rw[cv c1] at b ⊢;exact h.2 j q b
 ·rw[cU c1] at b ⊢;by_cases c2:j<off+new.length
  ·rw[cv c2] at b ⊢;exact e _ q b
  ·rw[cU c2] at b ⊢;exact h.2 j q b
theorem W2(b:Nat->Option (Nat×Nat))(aEE:Array Value)(i off m:Nat)(v:Value)(c:List (Nat×Value))(d:b i=some (off,m))(e:v.cells.size=m)(k:off+m<=aEE.size):
 Instr.fill b aEE ((i,v)::c)=Instr.fill b (oU aEE off v.cells.toList) c:=by
 simp only[Instr.fill,d,e];have h:v.cells.zipIdx.foldl (λ(cs:Array Value) (x:Value×Nat)=>cs.setIfInBounds (off+x.2) x.1) aEE=oU aEE off v.cells.toList:=by have:=ad8 off v.cells.toList 0 aEE;simp only[sm] at this;rw[<-this,<-Array.foldl_toList,Array.toList_zipIdx]
 have j:¬(off+m>aEE.size):=by omega
 simp only[ne_eq,not_true_eq_false,decide_false,Fa,j,iC,g8];rw[<-h]
theorem ct.fill(h:ct gl ph n B O g s a w)(d:Nat->Option (Nat×Nat)):∀(parts:List (Nat×Operand)) (ps:List (Nat×Nat×Operand)) (cs aEG:dA) (aEE:Array Value),
 Cz d parts ps->pg (c9 s.aC) cs ps=some aEG->rY (gf g w s.bo) cs aEE->
 ∃e,Instr.fill d aEE (parts.map λp=>(p.1,a.eval p.2))=some e/\rY (gf g w s.bo) aEG e
 |[],[],cs,aEG,aEE,_,b,j=>by simp only[pg,dD] at b;subst b;exact⟨aEE,rfl,j⟩
 |[],_::_,_,_,_,c,_,_=>c.elim
 |(_,_)::_,[],_,_,_,c,_,_=>c.elim
 |(i,x)::r,(off,m,y)::q,cs,aEG,aEE,c,b,j=>by
  obtain⟨l,rfl,t,u⟩:=c;simp only[pg] at b;split at b
  ·rename_i new z;split at b
   ·rename_i A;obtain⟨C,D⟩:=A;obtain⟨k,E⟩:=(h.fF t).cells z;have G:=j.put (vs:=(a.eval x).cells.toList) (off:=off) k (by omega) E;obtain⟨e,H,I⟩:=ct.fill h d r q _ aEG _ u b G;refine⟨e,?_,I⟩;simp only[gm];rw[W2 d aEE i off m (a.eval x) _ l (by simpa[C] using k) (by rw[j.1];exact D)];exact H
   ·simp at b
  ·simp at b
theorem WY{α b:Type}(f:α->Sem b)(r:α->b):∀l:List α,(∀x∈l,(f x).run P w= .ok (r x) w)->(l.mapM f).run P w= .ok (l.map r) w
 |[],_=>by simp
 |x::xs,h=>by simp only[List.mapM_cons,fq,h x (by simp),gd,WY f r xs (λy c=>h y (by simp[c])),gU,gm]
theorem aAC{α b:Type}(f:α->Sem b)(r:α->b)(l:Array α)(h:∀x∈l.toList,(f x).run P w= .ok (r x) w):(l.mapM f).run P w= .ok (l.map r) w:=by
 have c:=WY (P:=P) (w:=w) f r l.toList h;rw[Array.mapM_eq_mapM_toList];have d:(Functor.map List.toArray (l.toList.mapM f):Sem (Array b)).run P w=((l.toList.mapM f).run P w).andThen λx w'=> .ok x.toArray w':=by rw[map_eq_pure_bind,fq];rfl
 rw[d,c];simp only[gd,Result.ok.injEq,and_true];apply wN;simp
theorem aBa{zero:List Value}{ps:List (Nat×Nat×Operand)}{p:aG}{us:iP}(h:ct gl ph n B O g s a w)(C:∀t,o.dst=some t->t<n)(S:gA P o (.build zero ps))
 (D:b6 (c9 s.aC) s.bo (bs+o.dst.getD 0) (.build zero ps)=some (p,us))(E:gL gl ph n B O g w ⟨put s.aC o.dst p,c7 s.bo us⟩ K):o.wp P a w K Q:=by
 obtain⟨t,parts,sz,G,⟨i,z,hi,H,T,_,_,W⟩,X⟩:=S;simp only[b6,iL,io] at D;obtain⟨cs,I,rfl,rfl⟩:=D;have J:rY (gf g w s.bo) (zero.map aG.bu) z.cells:=by have:=rY.zero (R:=gf g w s.bo) (λv Z=> .inl (.bu Z)) W;rw[<-T] at this ⊢;simpa using this
 have L:∀aEE:Array Value,rY (gf g w s.bo) cs aEE->dT g w s.bo (.agg cs) (.agg aEE):=by
  intro aEE c;have e:Value.agg aEE=Value.agg aEE.toList.toArray:=by simp
  rw[e];refine .inr (.inr (.inl ⟨cs,aEE.toList,rfl,rfl,by simp[c.1],λj q u a1 b=>?_⟩));obtain⟨u',h1,h2,h3⟩:=c.2 j q a1;have:u'=u:=by rw[xb] at b;rw[h1] at b;exact pl b
  subst this;exact⟨h2,h3⟩
 have M:(parts.map λ(x:Nat×Operand)=>(x.1,a.eval x.2)).toList=parts.toList.map λp=>(p.1,a.eval p.2):=by simp
 rcases X with⟨d,b,N,y⟩|⟨m,e,cl,b,a2,y⟩
 ·obtain⟨l,A,c⟩:=h.fill _ parts.toList ps _ cs _ y I J;refine gj h C (v:= .agg l) ?_ (L l c) E;have hm:(d.mapM λf=>(do pure (f.offset,<-sizeOf f.type):Sem (Nat×Nat))).run P w= .ok (d.map λf=>(f.offset,((P.info? f.type).map (·.size)).getD 0)) w:=by refine aAC _ _ d (λf a3=>?_);obtain⟨k,a4⟩:=xE.1 a3;obtain⟨a5,r⟩:=Option.isSome_iff_exists.1 (N k f (by simpa using a4));simp only[fq,run_sizeOf r,gd,gU,r,jZ,Option.getD_some]
  have bx:(λk:Nat=>(d.map λ(f:Field)=>(f.offset,((P.info? f.type).map (·.size)).getD 0))[k]?)= λk=>(d[k]?).bind λ(f:Field)=>(P.info? f.type).map λi=>(f.offset,i.size):=by
   funext k;simp only[Array.getElem?_map];cases cc:d[k]? with
   |none=>rfl
   |some f=>obtain⟨a5,r⟩:=Option.isSome_iff_exists.1 (N k f cc);simp[r]
  simp only[execOp,G,Instr.build,fq,CE hi H,gd,i7 b,hm,M];simp only[bx,A,gU,gd]
 ·obtain⟨l,A,c⟩:=h.fill _ parts.toList ps _ cs _ y I J;refine gj h C (v:= .agg l) ?_ (L l c) E;simp only[execOp,G,Instr.build,fq,CE hi H,gd,i7 b,run_sizeOf a2,M,A,gU]
end
end
section
variable{sz:Nat} {p:aG} {es:kO}
section
variable{P:Program} {n B bs:Nat} {O:Nat->Prop} {gl:eI} {ph:ck×cD×World×List Deferred} {g:ck} {s:df} {a:Act} {w w':World} {o:Oper} {K:Act->World->Prop} {Q:Exit->Act->World->Prop}
def mF(R:aG->Value->Prop)(sz:Nat)(es:kO)(aEE:Array Value):Prop:=
 (∀(i:Nat) (cs:dA),es[i]? =some cs->cs.length=sz)/\
 ∀(i j:Nat) (cs:dA) (p:aG),es[i]? =some cs->cs[j]? =some p->∃u,aEE[i*sz+j]? =some u/\p.hK=true/\R p u
theorem ct.asE(h:ct gl ph n B O g s a w)(d b e sz:Nat)(es:kO)(aEQ:Bool)(aEE:Array Value)(c:w'.heap=w.heap.push (.cells aEE e (0,0)))(l:aEE.size=b*sz)(q:es.length<=b)(r:b<=maxLen)
 (k:mF (eZ g.U w) sz es aEE):ct gl ph n B O (g.new w d b) ⟨s.aC,dl s.bo d (.az ((s.bo d).cd+1) e sz es aEQ)⟩ a w':=by
 refine h.new d b (.az ((s.bo d).cd+1) e sz es aEQ) (Nat.lt_succ_self _) c ⟨aEE,?_,?_,?_,?_,k.1,λi j cs p hi t=>?_,λ_=>?_,?_⟩
 ·simp only[ck.new,iM];exact Uf c
 ·simp only[ck.new,iM];exact l
 ·simp only[ck.new,iM];exact q
 ·simp only[ck.new,iM];exact r
 ·obtain⟨u,x,y,z⟩:=k.2 i j cs p hi t;exact⟨u,x,y,z.mono (gk.push g c)⟩
 ·simp[ck.new,dl]
 ·simp[ck.new,dl]
theorem u2(h:ct gl ph n B O g s a w)(l:∀t,o.dst=some t->t<n)(k b e sz:Nat)(es:kO)(aEQ:Bool)(aEE:Array Value)
 (q:(execOp a.eval o).run P w= .ok (.value (.slice (some ⟨w.heap.size,0,none⟩) es.length b)) w')(c:w'.heap=w.heap.push (.cells aEE e (0,0)))(r:w'.os=w.os)(u:w'.tape=w.tape)(x:w'.output=w.output)
 (y:aEE.size=b*sz)(d:es.length<=b)(i:b<=maxLen)(z:mF (eZ g.U w) sz es aEE)
 (A:gL gl ph n B O g w ⟨put s.aC o.dst (.az k ((s.bo k).cd+1) 0 es.length),dl s.bo k (.az ((s.bo k).cd+1) e sz es aEQ)⟩ K):o.wp P a w K Q:=by
 have C:=h.asE k b e sz es aEQ aEE c y d i z;refine wK q (A _ _ _ (C.put o.dst l (.inr (.inl (.inr ⟨by simp[dl,Obj.cd],_,_,_,rfl,d,i,λD E aEK aER G=>?_⟩)))) (gn.push h c r u x));have j:dl s.bo k (.az ((s.bo k).cd+1) e sz es aEQ) k= .az ((s.bo k).cd+1) D E aEK aER:=G;rw[iM] at j;cases j;simp[ck.new,dl]
theorem agM(z:Array Value)(m k:Nat)(b:k<m):(madeCells z m)[k]? =some (z[k%z.size]!):=by simp[madeCells,b]
theorem aqQ{e bytes:Nat}{zero:List Value}{l c:Operand}{us:iP}(h:ct gl ph n B O g s a w)(J:∀t,o.dst=some t->t<n)(L:gA P o (.oJ e sz bytes zero l c))
 (b:b6 (c9 s.aC) s.bo (bs+o.dst.getD 0) (.oJ e sz bytes zero l c)=some (p,us))(M:gL gl ph n B O g w ⟨put s.aC o.dst p,c7 s.bo us⟩ K):o.wp P a w K Q:=by
 obtain⟨t,i',N,_,R,⟨i,z,hi,S,u,A,C,T⟩,D,W,cp,X,Z⟩:=L;have a1:i'=i:=by rw[hi] at D;exact(pl D).symm
 subst a1;have el:=h.fF X;have E:=h.fF Z;simp only[b6] at b;split at b
 ·rename_i x y hx a2;rw[hx] at el;rw[a2] at E;split at b
  ·rename_i a3;obtain⟨a4,h1,h2,h3⟩:=a3;cases b;have a5:=run_make (P:=P) w t e i' z R hi S .i64 .i64 x y a4 h1 (by rw[W,Int.mul_comm];omega) (by omega);have bx:z.cells.size=sz:=by rw[<-C,<-u];simp
   have cc:(List.replicate x.toNat (zero.map aG.bu)).length=x.toNat:=by simp
   refine u2 h J (bs+o.dst.getD 0) y.toNat e sz (List.replicate x.toNat (zero.map aG.bu)) true (madeCells z.cells (y.toNat*i'.size)) (w':=w.alloc (.cells (madeCells z.cells (y.toNat*i'.size)) e)) ?_ rfl rfl rfl rfl
    (by rw[size_madeCells,A]) (by simp;omega) (by simp only[maxLen];omega) ⟨λk cs d=>?_,λk j cs q d G=>?_⟩ ?_
   ·rw[cc];simp only[execOp,N,el.fB.1,E.fB.1,fq,a5,gd,gU]
   ·have:=dr d;simp at this;rw[this.2];simpa using C
   ·have H:=dr d;simp at H;obtain⟨_,rfl⟩:=H;have c0:k<x.toNat:=by have:=(e6.1 d).1;simpa using this
    simp only[fo,iL] at G;obtain⟨v,r,rfl⟩:=G;have cl:j<sz:=by have:=(e6.1 r).1;omega
    have I:iO v=true:=jl.1 T v (dr r);have cn:k*sz+j<y.toNat*i'.size:=by rw[A];have:=jJ sz (show k+1<=y.toNat by omega);rw[hW,m2] at this;omega
    refine⟨v,?_,I,.bu I⟩;rw[agM _ _ _ cn,bx,pU,JY,GG cl];have:z.cells[j]? =some v:=by rw[<-u] at r;simpa using r
    simp[getElem!_def,this]
   ·simpa[c7] using M
  ·simp at b
 ·simp at b
theorem ct.Uj(h:ct gl ph n B O g s a w){v:Value}(e:dT g w s.bo p v)(c:iZ s.bo sz p=some es):
 (v= .slice none 0 0/\es=[])\/∃b o' l,v= .slice (some ⟨b,o',none⟩) es.length l/\(∀(i:Nat) (cs:dA),es[i]? =some cs->cs.length=sz)/\
  ∀(i j:Nat) (cs:dA) (q:aG),es[i]? =some cs->cs[j]? =some q->∃u,w.cell? ⟨b,o'+(i*sz+j),none⟩=some u/\q.hK=true/\eZ g.U w q u:=by
 unfold iZ at c;split at c
 ·cases c;exact .inl ⟨e.fB.1,rfl⟩
 ·split at c
  ·rename_i z;subst z;cases c;cases e.u3 with
   |aQ S T W X t A C D E=>exact .inr ⟨_,_,_,rfl,A,λi j cs q hi d=>⟨_,C i j cs q hi d,D i j cs q hi d,E i j cs q hi d⟩⟩
  ·simp at c
 ·rename_i k aM off len;split at c
  ·rename_i Z e' a1 aEK aEQ x;split at c
   ·rename_i t;obtain⟨rfl,rfl,a2⟩:=t;cases c;obtain⟨_,b,o',l,rfl,h1,h2,G⟩:=e.ju (by simp[aG.key,aG.cf]);obtain⟨f1,f2,f3,f4⟩:=G _ _ _ _ x;have y:=h.ig k;rw[x] at y;obtain⟨aEE,r1,a3,a4,a5,fp,H,ln,ni⟩:=y;have I:((aEK.drop off).take len).length=len:=by simp;omega
    have r:∀(i:Nat) (cs:dA),((aEK.drop off).take len)[i]? =some cs->aEK[off+i]? =some cs/\i<len:=by
     intro i cs hi;rw[nh] at hi;split at hi
     ·rename_i J;rw[sp] at hi;exact⟨hi,J⟩
     ·cases hi
    refine .inr ⟨b,o',l,by rw[I],λi cs hi=>fp _ _ (r i cs hi).1,λi j cs q hi d=>?_⟩;obtain⟨u,L,M,N⟩:=H (off+i) j cs q (r i cs hi).1 d;have bx:=(r i cs hi).2;have R:=f3 (.inl (by omega));refine⟨u,?_,M,N⟩;rw[f2,R,cell_of_heap r1,<-L];congr 1;rw[hW];omega
   ·simp at c
  ·simp at c
 ·simp at c
theorem anm{i j:Nat}(h:j<sz):(i*sz+j)/sz=i/\(i*sz+j) %sz=j:=by
 have b:0<sz:=by omega
 constructor
 ·rw[pU,Kn b,Md h];rfl
 ·rw[pU,JY,GG h]
theorem abM{b o':Nat}{R:aG->Value->Prop}(r:∀(i:Nat) (cs:dA),es[i]? =some cs->cs.length=sz)
 (t:∀(i j:Nat) (cs:dA) (q:aG),es[i]? =some cs->cs[j]? =some q->∃u,w.cell? ⟨b,o'+(i*sz+j),none⟩=some u/\q.hK=true/\R q u):
 ∃aEM:List Value,aEM.length=es.length*sz/\(∀(j:Nat) (u:Value),aEM[j]? =some u->w.cell? ⟨b,o'+j,none⟩=some u)/\
  ∀(i j:Nat) (cs:dA) (q:aG),es[i]? =some cs->cs[j]? =some q->∃u,aEM[i*sz+j]? =some u/\q.hK=true/\R q u:=by
 have A:∀k,k<es.length*sz->∃u,w.cell? ⟨b,o'+k,none⟩=some u:=by
  intro k c
  have x:0<sz:=by rcases ku sz with h|h;·subst h;simp at c
                  ·exact h
  have hi:k/sz<es.length:=by rw[Nat.div_lt_iff_lt_mul x];exact c
  have l:k%sz<sz:=Ca _ x;have y:=dC hi;have G:=r _ _ y;obtain⟨u,d,_⟩:=t (k/sz) (k%sz) _ _ y (dC (by omega));exact⟨u,by rw[<-d];congr 2;rw[pU,Nat.div_add_mod]⟩
 refine⟨(List.range (es.length*sz)).map λk=>(w.cell? ⟨b,o'+k,none⟩).getD undef,by simp,λj u z=>?_,λi j cs q hi l=>?_⟩
 ·simp only[fo,iL] at z;obtain⟨k,c,rfl⟩:=z;have e:j<es.length*sz:=by have:=(e6.1 c).1;simpa using this
  have:k=j:=by rw[HO e] at c;exact(pl c).symm
  subst this;obtain⟨u,d⟩:=A k e;simp[d]
 ·obtain⟨u,d,C,D⟩:=t i j cs q hi l;have E:i<es.length:=(e6.1 hi).1;have H:j<sz:=by have:=(e6.1 l).1;have:=r i cs hi;omega
  have e:i*sz+j<es.length*sz:=by have:=jJ sz (show i+1<=es.length from E);rw[hW,m2] at this;omega
  refine⟨u,?_,C,D⟩;simp[HO e,d]
end
end
section
variable{ob:cD} {sz:Nat} {es:kO}
section
variable{P:Program} {n B bs:Nat} {O:Nat->Prop} {gl:eI} {ph:ck×cD×World×List Deferred} {g:ck} {s:df} {a:Act} {w w':World} {o:Oper} {K:Act->World->Prop} {Q:Exit->Act->World->Prop}
theorem ct.adB(h:ct gl ph n B O g s a w)(k:Nat)(x:Obj)(aEE:Array Value)(d:(s.bo k).fx)(u:gk g.U w g.U (w.setRow (g.b3 k) aEE))
 (y:fY g s.bo g (dl s.bo k x))(z:kR g (w.setRow (g.b3 k) aEE) (dl s.bo k x) k x):
 ct gl ph n B O g ⟨s.aC,dl s.bo k x⟩ a (w.setRow (g.b3 k) aEE)/\gn B O g.U w g.U (w.setRow (g.b3 k) aEE):=by
 obtain⟨a1,a2,A,a4⟩:=D0 w (g.b3 k) aEE;have j:∀b,b≠g.b3 k->(w.setRow (g.b3 k) aEE).heap[b]? =w.heap[b]? :=λb l=>Ct w (g.b3 k) b aEE (λe=>l (by simpa using e));refine⟨h.zp (dl s.bo k x) (· =k) u y (λc C=>ir _ _ C) (λc i p=>?_) (λc i p=>?_),⟨a1,a2,A,by omega,λb l D=>j b ?_,λ_ _ _=>rfl⟩⟩
 ·exact⟨rfl,rfl,rfl,j _ (λe=>i (h.inj c k p d e))⟩
 ·subst i;refine⟨by rw[iM];exact z,(h.jI c d).1,by rw[a4];exact(h.jI c d).2,λE q r=>?_⟩;rw[ir _ _ q] at r;exactλe=>q (h.inj E c r d e)
 ·intro e;subst e;rcases(h.jI k d).1 with t|t
  ·omega
  ·exact D t
theorem fY.Rv(g:ck)(k:Nat)(x:Obj)(c:x.cd=(ob k).cd+1):fY g ob g (dl ob k x):=by
 intro h;by_cases d:h=k
 ·subst d;rw[iM];refine⟨by omega,λcs b=>?_,λe sz es aEQ b=>?_,λes b=>?_⟩
  ·rw[b] at c;simp[Obj.cd] at c
  ·rw[b] at c;simp[Obj.cd] at c
  ·rw[b] at c;simp[Obj.cd] at c
 ·rw[ir _ _ d];exact⟨cY _,λcs b=>⟨⟨cs,b⟩,rfl⟩,λ_ _ es aEQ b=>⟨⟨es,aEQ,b,cY _⟩,rfl,rfl⟩,λes b=>⟨⟨es,b⟩,rfl⟩⟩
theorem mF.append{R:aG->Value->Prop}{len:Nat}{ys:kO}{xs aEM:List Value}{tl:List Value}(l:∀(i:Nat) (cs:dA),es[i]? =some cs->cs.length=sz)(z:len<=es.length)(q:xs.length=len*sz)
 (r:∀(i j:Nat) (cs:dA) (p:aG),i<len->es[i]? =some cs->cs[j]? =some p->∃u,xs[i*sz+j]? =some u/\p.hK=true/\R p u)
 (t:∀(i:Nat) (cs:dA),ys[i]? =some cs->cs.length=sz)
 (x:∀(i j:Nat) (cs:dA) (p:aG),ys[i]? =some cs->cs[j]? =some p->∃u,aEM[i*sz+j]? =some u/\p.hK=true/\R p u):
 mF R sz (es.take len++ys) (xs++aEM++tl).toArray:=by
 have h:(es.take len).length=len:=by simp;omega
 refine⟨λi cs hi=>?_,λi j cs p hi k=>?_⟩
 ·rw[O7] at hi;split at hi
  ·rw[nh] at hi;split at hi
   ·exact l i cs hi
   ·cases hi
  ·exact t _ cs hi
 ·rw[O7] at hi;rw[Bx,kD];split at hi
  ·rename_i b;rw[h] at b;rw[nh,cv b] at hi;obtain⟨u,c,d,e⟩:=r i j cs p b hi k;refine⟨u,?_,d,e⟩;rw[q5 ((e6.1 c).1)];exact c
  ·rename_i b;rw[h] at b hi;obtain⟨u,c,d,e⟩:=x (i-len) j cs p hi k;refine⟨u,?_,d,e⟩;have y:i*sz+j=len*sz+((i-len)*sz+j):=by rw[<-wT,<-hW];congr 2;omega
   rw[y,sH (by omega),q,Nat.add_sub_cancel_left,q5 ((e6.1 c).1)];exact c
theorem eZ.pI{c:Nat->Nat}{q:aG}{u:Value}(b:q.hK=true)(h:eZ c w q u):u.oneCell'=true:=
 gf.pI (g:=⟨c,λ_=>0,λ_=>0⟩) (ob:=λ_=> .ax 0) b (.inl h)
theorem ct.fL(h:ct gl ph n B O g s a w){x:Operand}(D:cJ x=true){sz:Nat}{ys:kO}(E:iZ s.bo sz (c9 s.aC x)=some ys):
 (a.eval x= .slice none 0 0/\ys=[])\/∃(r:Addr) (c:Nat) (aEM:List Value),a.eval x= .slice (some r) ys.length c/\aEM.length=ys.length*sz/\
  (∀(j:Nat) (u:Value),aEM[j]? =some u->w.cell? (r.add j)=some u)/\(∀u:Value,u∈aEM->u.oneCell'=true)/\(∀(i:Nat) (cs:dA),ys[i]? =some cs->cs.length=sz)/\
  ∀(i j:Nat) (cs:dA) (q:aG),ys[i]? =some cs->cs[j]? =some q->∃u,aEM[i*sz+j]? =some u/\q.hK=true/\eZ g.U w q u:=by
 rcases h.Uj (h.fF D) E with d|⟨b,o',c,d,e,G⟩
 ·exact .inl d
 ·obtain⟨aEM,H,I,t⟩:=abM (R:=eZ g.U w) e G;refine .inr ⟨⟨b,o',none⟩,c,aEM,d,H,λj u l=>by rw[add_lit];exact I j u l,λu l=>?_,e,t⟩;obtain⟨k,y⟩:=xE.1 l;have z:k<ys.length*sz:=by have:=(e6.1 y).1;omega
  have A:0<sz:=by rcases ku sz with p|p
                  ·subst p;simp at z
                  ·exact p
  have hi:k/sz<ys.length:=by rw[Nat.div_lt_iff_lt_mul A];exact z
  have M:k%sz<sz:=Ca _ A;have C:=dC hi;have N:=e _ _ C;obtain⟨S,a1,a2,J⟩:=t (k/sz) (k%sz) _ _ C (dC (by omega));have L:k/sz*sz+k%sz=k:=by rw[pU,Nat.div_add_mod]
  rw[L,y] at a1;cases a1;exact J.pI a2
theorem og(z:Array Value)(m:Nat):(Builtin.zeroCells z m).size=m*z.size:=size_zeroCells z m
theorem avB{g:ck}{w:World}{v:Value}(h:dT g w ob (.a0 [.undef,.aQ sz es]) v):
 ∃b:Addr,v= .slice (some b) es.length es.length/\eZ g.U w (.aQ sz es) v:=by
 rcases h with h|h|⟨cs,vs,h,_⟩|⟨ps,vs,c,e,d,i⟩|⟨j,aEK,b,c,e,d⟩
 ·cases h
 ·rcases h with h|h
  ·cases h
  ·cases h
 ·cases h
 ·cases c;cases vs with
  |nil=>cases d
  |cons u r=>
   rcases i 0 .undef u rfl rfl with h|⟨cs,_,h,_⟩
   ·rcases h with h|h
    ·cases h
    ·cases h
   ·cases h
 ·cases c;exact⟨b,e,d⟩
theorem aw2{e bytes:Nat}{sl x:Operand}{aEQ:Bool}{p:aG}{us:iP}(h:ct gl ph n B O g s a w)(hd:∀t,o.dst=some t->t<n)(hr:gA P o (.append e sz bytes sl x aEQ))
 (y:b6 (c9 s.aC) s.bo (bs+o.dst.getD 0) (.append e sz bytes sl x aEQ)=some (p,us))(hk:gL gl ph n B O g w ⟨put s.aC o.dst p,c7 s.bo us⟩ K):o.wp P a w K Q:=by
 obtain⟨t,i,ho,ll,I,hi,em,⟨z,hz,en⟩,H,lo,i8,hx⟩:=hr;have N:=h.fF i8;have S:∀(v:Value) (eq:World),(Builtin.append_ #[t,t] o.type #[a.eval sl,a.eval x]).run P w= .ok v eq->(execOp a.eval o).run P w= .ok (.value v) eq:=by intro v eq E;simp only[execOp,ho,resolve,invoke,builtin,fq,gU,gd,uE,gm,mC,E]
 have ev:∀(J cc:Nat),J<=1099511627776->J<=grownCap w J cc e/\grownCap w J cc e<=maxLen:=λJ cc hn=>
  ⟨grownCap_ge w J cc e,Ph w J cc e (by simp only[maxLen];omega)⟩
 simp only[b6] at y;split at y
 ·rename_i ys cl T;rw[cl] at N;have G:=N.fB.1;split at y
  ·rename_i cn;obtain⟨ge,cp⟩:=cn;split at y
   ·rename_i L;cases y;have jn:ys=[]:=uw L;subst jn;refine gj h hd (v:= .slice none 0 0) (S _ _ ?_) (.bu rfl) hk;rcases h.fL hx T with⟨l,_⟩|⟨W,c0,aEM,l,_⟩
    ·rw[G,l];simp[Builtin.append_,i7 I,sizeOf,typeInfo,hi,Builtin.lenOf,Builtin.firstCells]
    ·rw[G,l];simp[Builtin.append_,i7 I,sizeOf,typeInfo,hi,Builtin.lenOf,Builtin.firstCells,loadCells,loadCellsFrom]
   ·rename_i L;cases y;rcases h.fL hx T with⟨_,l⟩|⟨W,c0,aEM,l,C,X,h4,Z,a5⟩
    ·subst l;simp at L
    ·have D:=run_append_nil (P:=P) w t o.type e i z I hi hz W ys.length c0 aEM (by rw[H];exact C) X (by omega) (by omega) (by rw[em];omega);obtain⟨dB,cT⟩:=ev ys.length 0 cp;rw[<-G,<-l] at D;refine u2 h hd (bs+o.dst.getD 0) (grownCap w ys.length 0 e) e sz ys aEQ _ (S _ _ D) rfl rfl rfl rfl ?_ dB cT ?_ (by simpa[c7] using hk)
     ·rw[sh,og,v1,C,en,<-hW];congr 1;omega
     ·have:=mF.append (R:=eZ g.U w) (sz:=sz) (len:=0) (es:=[]) (ys:=ys) (xs:=[]) (aEM:=aEM) (tl:=(Builtin.zeroCells z.cells (grownCap w ys.length 0 e-ys.length)).toList) (by simp) (by simp) (by simp) (by simp) Z a5;have e:(aEM.toArray++Builtin.zeroCells z.cells (grownCap w ys.length 0 e-ys.length))=(([]:List Value)++aEM++(Builtin.zeroCells z.cells (grownCap w ys.length 0 e-ys.length)).toList).toArray:=by apply wN;simp
      rw[e];exact this
  ·simp at y
 ·rename_i k aM len ys cl T;rw[cl] at N;obtain⟨lq,b,o',c0,G,ex,j0,j1⟩:=N.ju (by simp[aG.key,aG.cf]);split at y
  ·rename_i lt A d es r c4;split at y
   ·rename_i cn;obtain⟨rfl,rfl,rfl,go,ge,cp⟩:=cn;cases y;obtain⟨f1,f2,f3,f4⟩:=j1 _ _ _ _ c4;have j2:o'=0:=by rw[f3 (.inr rfl)];simp
    have j3:c0=g.cap k:=f4 rfl;subst f2;subst j2;subst j3;have gt:=h.ig k;rw[c4] at gt;obtain⟨aEE,r1,fn,lv,j4,fp,j5,ln,ni⟩:=gt;have j6:(s.bo k).fx:=by rw[c4];trivial
    have ha:len<=es.length:=by rcases go with hl|⟨_,hl⟩<;>omega
    have hc:(s.bo k).cd=aM:=by rw[c4];rfl
    let xs:List Value:=aEE.toList.take (len*d);have l1:len*d<=aEE.size:=by rw[fn];exact jJ _ ex
    have c5:xs.length=len*d:=by simp[xs];omega
    have he:∀(i' j:Nat) (cs:dA) (q:aG),i'<len->es[i']? =some cs->cs[j]? =some q->∃u,xs[i'*d+j]? =some u/\q.hK=true/\eZ g.U w q u:=by
     intro i' j cs q j7 c1 dq;obtain⟨u,M,c2,c3⟩:=j5 i' j cs q c1 dq;refine⟨u,?_,c2,c3⟩;have l2:j<d:=by have:=(e6.1 dq).1;have:=fp i' cs c1;omega
     have:=jJ d (show i'+1<=len from j7);rw[hW,m2] at this;simp only[xs];rw[nh,fS];simpa using M
    have md:g.U (g.b3 k)<=len*d:=by
     rcases go with hl|⟨j8,_⟩
     ·rw[hl];exact ni
     ·rw[ln j8];omega
    have inplace:∀(aEM:List Value),aEM.length=ys.length*d->len+ys.length<=g.cap k->(∀(i:Nat) (cs:dA),ys[i]? =some cs->cs.length=d)->
     (∀(i j:Nat) (cs:dA) (q:aG),ys[i]? =some cs->cs[j]? =some q->∃u,aEM[i*d+j]? =some u/\q.hK=true/\eZ g.U w q u)->
     (execOp a.eval o).run P w= .ok (.value (.slice (some ⟨g.b3 k,0,none⟩) (len+ys.length) (g.cap k))) (w.setRow (g.b3 k) (aEE.toList.take (len*d)++aEM++aEE.toList.drop (len*d+aEM.length)).toArray)->o.wp P a w K Q:=by
     intro aEM C bx Z a5 D;have hf:gk g.U w g.U (w.setRow (g.b3 k) (aEE.toList.take (len*d)++aEM++aEE.toList.drop (len*d+aEM.length)).toArray):=by
      obtain⟨a1,a2,a3,a4⟩:=D0 w (g.b3 k) (aEE.toList.take (len*d)++aEM++aEE.toList.drop (len*d+aEM.length)).toArray;refine⟨by omega,λ_ _=>cY _,λb' i' hb c1=>?_⟩;by_cases hh:b'=g.b3 k
      ·subst hh;rw[cell_of_heap (wo w (g.b3 k) aEE _ A (0,0) r1),cell_of_heap r1,Bx,kD,q5 (by simp;omega),nh,fS];simp
      ·simp only[World.cell?,Ct w (g.b3 k) b' _ (λe=>hh (by simpa using e))]
     have j9:=fY.Rv (ob:=s.bo) g k (.az (aM+1) A d (es.take len++ys) r) (by rw[hc];rfl);have mn:len*d+ys.length*d<=aEE.size:=by rw[fn,<-hW];exact jJ _ bx
     have hm:=mF.append (R:=eZ g.U w) (tl:=aEE.toList.drop (len*d+aEM.length)) fp ha c5 he Z a5;have hw:=h.adB k (.az (aM+1) A d (es.take len++ys) r) _ j6 hf j9 (by
      refine⟨_,wo w (g.b3 k) aEE _ A (0,0) r1,?_,?_,j4,hm.1,λi' j cs q c1 dq=>?_,ln,?_⟩
      ·simp;rw[C];omega
      ·simp;omega
      ·obtain⟨u,M,c2,c3⟩:=hm.2 i' j cs q c1 dq;exact⟨u,M,c2,c3.mono hf⟩
      ·have:(es.take len++ys).length=len+ys.length:=by simp;omega
       rw[this,hW];omega)
     refine wK D (hk g _ _ (hw.1.put o.dst hd (.inr (.inl (.inr ⟨by simp[dl,Obj.cd],_,_,_,rfl,bx,j0,λkp kq k0 k1 k2=>?_⟩)))) hw.2);have hA:dl s.bo k (.az (aM+1) A d (es.take len++ys) r) k= .az (aM+1) kp kq k0 k1:=k2;rw[iM] at hA;cases hA;refine⟨by simp;omega,rfl,by simp,λ_=>rfl⟩
    rcases h.fL hx T with⟨l,L⟩|⟨W,c,aEM,l,C,X,h4,Z,a5⟩
    ·subst L;refine inplace [] (by simp) (by simpa using ex) (by simp) (by simp) (S _ _ ?_);rw[G,l];simp[Builtin.append_,i7 I,sizeOf,typeInfo,hi,Builtin.lenOf,Builtin.firstCells,ex,storeCells];rw[setRow_self w (g.b3 k) aEE A (0,0) r1]
    ·by_cases bx:len+ys.length<=g.cap k
     ·have D:=run_append_room (P:=P) w t o.type A i I hi (g.b3 k) len (g.cap k) aEE r1 W ys.length c aEM (by rw[H];exact C) X h4 bx (by rw[H,C,fn,<-hW];exact jJ _ bx);rw[H,<-G,<-l] at D;exact inplace aEM C bx Z a5 (S _ _ D)
     ·have D:=run_append_grow (P:=P) w t o.type A i z I hi hz ⟨g.b3 k,0,none⟩ len (g.cap k) xs (by rw[H];exact c5)
       (λj v E=>by
        rw[add_lit,kM,cell_of_heap r1];simp only[xs] at E;rw[nh] at E;split at E
        ·simpa using E
        ·cases E) W ys.length c aEM (by rw[H];exact C) X (by omega) (by omega) (growslice_fits (by omega) (by rw[em];omega))
      rw[<-G,<-l] at D;obtain⟨dB,cT⟩:=ev (len+ys.length) (g.cap k) cp;have ee:(es.take len++ys).length=len+ys.length:=by simp;omega
      have la:gL gl ph n B O g w ⟨put s.aC o.dst (.az k ((s.bo k).cd+1) 0 (es.take len++ys).length),dl s.bo k (.az ((s.bo k).cd+1) A d (es.take len++ys) r)⟩ K:=by rw[hc,ee];simpa[c7] using hk
      refine u2 (w':=w.drew.alloc (.cells (xs.toArray++aEM.toArray++Builtin.zeroCells z.cells (grownCap w (len+ys.length) (g.cap k) A-(len+ys.length))) A)) h hd k (grownCap w (len+ys.length) (g.cap k) A) A d (es.take len++ys) r _ (by rw[ee];exact S _ _ D) rfl rfl rfl rfl ?_ (by omega) cT ?_ la
      ·rw[sh,sh,og,v1,v1,c5,C,en,<-hW,<-hW];congr 1;omega
      ·have:=mF.append (R:=eZ g.U w) (tl:=(Builtin.zeroCells z.cells (grownCap w (len+ys.length) (g.cap k) A-(len+ys.length))).toList) fp ha c5 he Z a5;have e:(xs.toArray++aEM.toArray++Builtin.zeroCells z.cells (grownCap w (len+ys.length) (g.cap k) A-(len+ys.length)))=(xs++aEM++(Builtin.zeroCells z.cells (grownCap w (len+ys.length) (g.cap k) A-(len+ys.length))).toList).toArray:=by apply wN;simp
       rw[e];exact this
   ·simp at y
  ·simp at y
 ·rename_i d es ys cl T;rw[cl] at N;obtain⟨W,G,E⟩:=avB N;split at y
  ·rename_i cn;obtain⟨rfl,le,ge,cp⟩:=cn;cases y;rcases h.Uj (p:= .aQ d es) (.inr (.inl (.inl E))) (es:=es) (sz:=d) (by simp[iZ]) with⟨l,_⟩|⟨b,o',c0,l,C,X⟩
   ·rw[G] at l;cases l
   ·rw[G] at l;cases l;obtain⟨xs,M,c2,c3⟩:=abM (R:=eZ g.U w) C X;rcases h.fL hx T with⟨_,L⟩|⟨lf,c,aEM,aS,cZ,gg,jf,rz,v2⟩
    ·subst L;simp at le
    ·have D:=run_append_grow (P:=P) w t o.type e i z I hi hz ⟨b,o',none⟩ es.length es.length xs (by rw[H];exact M)
      (λj v E=>by rw[add_lit];exact c2 j v E) lf ys.length c aEM (by rw[H];exact cZ) gg (by omega) (by omega) (growslice_fits (by omega) (by rw[em];omega))
     rw[<-G,<-aS] at D;obtain⟨dB,cT⟩:=ev (es.length+ys.length) es.length cp;have ee:(es++ys).length=es.length+ys.length:=by simp
     refine u2 (w':=w.drew.alloc (.cells (xs.toArray++aEM.toArray++Builtin.zeroCells z.cells (grownCap w (es.length+ys.length) es.length e-(es.length+ys.length))) e)) h hd (bs+o.dst.getD 0) (grownCap w (es.length+ys.length) es.length e) e d (es++ys) aEQ _ (by rw[ee];exact S _ _ D) rfl rfl rfl rfl ?_ (by omega) cT ?_ (by simpa[c7] using hk)
     ·rw[sh,sh,og,v1,v1,M,cZ,en,<-hW,<-hW];congr 1;omega
     ·have:=mF.append (R:=eZ g.U w) (sz:=d) (len:=es.length) (es:=es) (ys:=ys) (xs:=xs) (aEM:=aEM) (tl:=(Builtin.zeroCells z.cells (grownCap w (es.length+ys.length) es.length e-(es.length+ys.length))).toList) C (cY _) M (λi j cs p _=>c3 i j cs p) rz v2;rw[vw] at this;have e:(xs.toArray++aEM.toArray++Builtin.zeroCells z.cells (grownCap w (es.length+ys.length) es.length e-(es.length+ys.length)))=(xs++aEM++(Builtin.zeroCells z.cells (grownCap w (es.length+ys.length) es.length e-(es.length+ys.length))).toList).toArray:=by apply wN;simp
      rw[e];exact this
  ·simp at y
 ·simp at y
end
end
section
variable{P:Program} {n B bs:Nat} {O:Nat->Prop} {gl:eI} {ph:ck×cD×World×List Deferred} {g:ck} {s:df} {a:Act} {w w':World} {o:Oper} {K:Act->World->Prop} {Q:Exit->Act->World->Prop}
theorem Db(b:ByteArray):(lc b).length=b.size:=by simp[lc]
theorem ZR{c:Nat->Nat}{w:World}(b:ByteArray):(∀(i:Nat) (cs:dA),(lc b)[i]? =some cs->cs.length=1)/\
 ∀(i j:Nat) (cs:dA) (q:aG),(lc b)[i]? =some cs->cs[j]? =some q->∃u,(Lib.strCells b)[i*1+j]? =some u/\q.hK=true/\eZ c w q u:=by
 have h:∀(i:Nat) (cs:dA),(lc b)[i]? =some cs->∃y,b.data.toList[i]? =some y/\cs=[.bu (.int .u8 y.toNat)]:=by intro i cs hi;simp only[lc,fo,iL] at hi;obtain⟨y,d,k⟩:=hi;exact⟨y,d,k.symm⟩
 refine⟨λi cs hi=>?_,λi j cs q hi e=>?_⟩
 ·obtain⟨y,_,rfl⟩:=h i cs hi;rfl
 ·obtain⟨y,d,rfl⟩:=h i cs hi;cases j with
  |zero=>simp at e;subst e;refine⟨.int .u8 y.toNat,?_,rfl,.bu rfl⟩;rw[Fq,sm,Lib.strCells,fo,d];rfl
  |succ j=>simp at e
theorem run_append_nil_string(w:World)(t u c e:TypeId)(i:TypeInfo)(z:Value)(d:P.underlying t=some (.slice e))(h:P.underlying u=some .string)(hi:P.info? e=some i)(j:i.zero=some z)
 (b:ByteArray)(k:0<b.size)(x:(b.size:Int)<=9223372036854775807)(y:b.size*i.bytes<=281474976710656):
 (Builtin.append_ #[t,u] c #[.slice none 0 0,.string b]).run P w=
  .ok (.slice (some ⟨w.heap.size,0,none⟩) b.size (grownCap w b.size 0 e)) (w.drew.alloc (.cells ((Lib.strCells b).toArray++Builtin.zeroCells z.cells (grownCap w b.size 0 e-b.size)) e)):=by
 have l:b.size≠0:=by omega
 have p:¬(9223372036854775807<(b.size:Int)):=by omega
 have q:¬(281474976710656<Builtin.nextslicecap b.size 0*i.bytes):=by rw[nextslicecap_zero k];omega
 have r:=Lib.run_firstCells_string (P:=P) w.drew i.size b;simp[Builtin.append_,i7 d,i7 h,sizeOf,typeInfo,zeroValue,hi,j,Builtin.lenOf,l,p,q,Question.forced,run_firstCells_none,r,newRow,grownCap]
theorem ai8{e bytes:Nat}{sl x:Operand}{aEQ:Bool}{p:aG}{us:iP}(h:ct gl ph n B O g s a w)(I:∀t,o.dst=some t->t<n)(hr:gA P o (.mM e bytes sl x aEQ))
 (l:b6 (c9 s.aC) s.bo (bs+o.dst.getD 0) (.mM e bytes sl x aEQ)=some (p,us))(J:gL gl ph n B O g w ⟨put s.aC o.dst p,c7 s.bo us⟩ K):o.wp P a w K Q:=by
 obtain⟨t,L,i,z,ho,le,M,N,hi,dq,hz,ee,em,h2,hx⟩:=hr;have S:=h.fF h2;have T:∀(v:Value) (cc:World),(Builtin.append_ #[t,L] o.type #[a.eval sl,a.eval x]).run P w= .ok v cc->(execOp a.eval o).run P w= .ok (.value v) cc:=by intro v cc A;simp only[execOp,ho,resolve,invoke,builtin,fq,gU,gd,uE,gm,mC,A]
 have en:∀(C D:Nat),C<=1099511627776->C<=grownCap w C D e/\grownCap w C D e<=maxLen:=λC D hn=>
  ⟨grownCap_ge w C D e,Ph w C D e (by simp only[maxLen];omega)⟩
 simp only[b6] at l;split at l
 ·rename_i b cl cn;rw[cl] at S;have E:=h.fF hx;rw[cn] at E;have G:=S.fB.1;have eq:=E.fB.1;obtain⟨W,X⟩:=ZR (c:=g.U) (w:=w) b;split at l
  ·rename_i cp;obtain⟨h3,c0⟩:=cp;split at l
   ·rename_i c1;cases l;refine gj h I (v:= .slice none 0 0) (T _ _ ?_) (.bu rfl) J;rw[G,eq];have hf:=Lib.run_firstCells_string (P:=P) w i.size b;simp[Builtin.append_,i7 M,i7 N,sizeOf,typeInfo,hi,Builtin.lenOf,c1,hf];rw[c1] at hf;simp[hf]
   ·rename_i c1;cases l;have y:=run_append_nil_string (P:=P) w t L o.type e i z M N hi hz b (by omega) (by omega) (by rw[dq];omega);obtain⟨dB,cT⟩:=en b.size 0 c0;rw[<-G,<-eq] at y;refine u2 (w':=w.drew.alloc (.cells ((Lib.strCells b).toArray++Builtin.zeroCells z.cells (grownCap w b.size 0 e-b.size)) e)) h I (bs+o.dst.getD 0) (grownCap w b.size 0 e) e 1 (lc b) aEQ _ (by rw[Db];exact T _ _ y) rfl rfl rfl rfl ?_ (by rw[Db];exact dB) cT ?_ (by rw[Db];simpa[c7] using J)
    ·rw[sh,og,v1,Lib.strCells_length,ee];omega
    ·have:=mF.append (R:=eZ g.U w) (sz:=1) (len:=0) (es:=[]) (ys:=lc b) (xs:=[]) (aEM:=Lib.strCells b) (tl:=(Builtin.zeroCells z.cells (grownCap w b.size 0 e-b.size)).toList) (by simp) (by simp) (by simp) (by simp) W X;have e:((Lib.strCells b).toArray++Builtin.zeroCells z.cells (grownCap w b.size 0 e-b.size))=(([]:List Value)++Lib.strCells b++(Builtin.zeroCells z.cells (grownCap w b.size 0 e-b.size)).toList).toArray:=by apply wN;simp
     rw[e];exact this
  ·simp at l
 ·rename_i k aM len b cl cn;rw[cl] at S;have E:=h.fF hx;rw[cn] at E;have ev:=E.fB.1;obtain⟨W,X⟩:=ZR (c:=g.U) (w:=w) b;have lf:=Db b;obtain⟨ll,lo,o',h4,G,i8,jn,j0⟩:=S.ju (by simp[aG.key,aG.cf]);split at l
  ·rename_i lq d lt es r Z;split at l
   ·rename_i cp;obtain⟨rfl,rfl,rfl,fn,h3,c0⟩:=cp;cases l;obtain⟨f1,f2,f3,f4⟩:=j0 _ _ _ _ Z;have j1:o'=0:=by first|(rw[f3 (.inr rfl)];done)|(rw[f3 (.inr rfl)];simp)
    have j2:h4=g.cap k:=f4 rfl;subst f2;subst j1;subst j2;have ge:=h.ig k;rw[Z] at ge;obtain⟨aEE,r1,go,lv,j3,fp,j4,ln,ni⟩:=ge;have j5:(s.bo k).fx:=by rw[Z];trivial
    have gt:len<=es.length:=by rcases fn with hl|⟨_,hl⟩<;>omega
    have ha:(s.bo k).cd=aM:=by rw[Z];rfl
    let xs:List Value:=aEE.toList.take (len*1);have l1:len*1<=aEE.size:=by rw[go];exact jJ _ i8
    have a5:xs.length=len*1:=by simp only[xs,ta,P1];omega
    have hc:∀(i' j:Nat) (cs:dA) (q:aG),i'<len->es[i']? =some cs->cs[j]? =some q->∃u,xs[i'*1+j]? =some u/\q.hK=true/\eZ g.U w q u:=by
     intro i' j cs q l2 H bx;obtain⟨u,c2,c3,c4⟩:=j4 i' j cs q H bx;refine⟨u,?_,c3,c4⟩;have md:j<1:=by have:=(e6.1 bx).1;have:=fp i' cs H;omega
     simp only[xs];rw[nh,fS];simpa using c2
    have mn:g.U (g.b3 k)<=len*1:=by
     rcases fn with hl|⟨j6,_⟩
     ·rw[hl];exact ni
     ·rw[ln j6];omega
    by_cases he:len+b.size<=g.cap k
    ·have j7:len+b.size<=aEE.size:=by rw[go];omega
     have y:=Lib.run_append_room_string (P:=P) w t L o.type d i M N hi em (g.b3 k) len (g.cap k) aEE r1 b he j7;rw[<-G,<-ev] at y;have y:=T _ _ y;have ms:(Lib.strCells b).length=b.size:=Lib.strCells_length b;have hh:gk g.U w g.U (w.setRow (g.b3 k) (aEE.toList.take len++Lib.strCells b++aEE.toList.drop (len+b.size)).toArray):=by
      obtain⟨a1,a2,a3,a4⟩:=D0 w (g.b3 k) (aEE.toList.take len++Lib.strCells b++aEE.toList.drop (len+b.size)).toArray;refine⟨by omega,λ_ _=>cY _,λb' i' hb H=>?_⟩;by_cases hm:b'=g.b3 k
      ·subst hm;rw[cell_of_heap (wo w (g.b3 k) aEE _ d (0,0) r1),cell_of_heap r1,Bx,kD,q5 (by simp;omega),nh,fS];simp
      ·simp only[World.cell?,Ct w (g.b3 k) b' _ (λe=>hm (by simpa using e))]
     have j8:=fY.Rv (ob:=s.bo) g k (.az (aM+1) d 1 (es.take len++lc b) r) (by rw[ha];rfl);have c5:=mF.append (R:=eZ g.U w) (tl:=aEE.toList.drop (len+b.size)) fp gt a5 hc W X;have j9:xs=aEE.toList.take len:=by simp only[xs,Fq]
     rw[j9] at c5;have hw:=h.adB k (.az (aM+1) d 1 (es.take len++lc b) r) _ j5 hh j8 (by
      refine⟨_,wo w (g.b3 k) aEE _ d (0,0) r1,?_,?_,j3,c5.1,λi' j cs q H bx=>?_,ln,?_⟩
      ·simp;omega
      ·simp;omega
      ·obtain⟨u,c2,c3,c4⟩:=c5.2 i' j cs q H bx;exact⟨u,c2,c3,c4.mono hh⟩
      ·have:(es.take len++lc b).length=len+b.size:=by simp;omega
       rw[this];omega)
     refine wK y (J g _ _ (hw.1.put o.dst I (.inr (.inl (.inr ⟨by simp[dl,Obj.cd],_,_,_,rfl,he,jn,λkp kq k0 k1 k2=>?_⟩)))) hw.2);have hA:dl s.bo k (.az (aM+1) d 1 (es.take len++lc b) r) k= .az (aM+1) kp kq k0 k1:=k2;rw[iM] at hA;cases hA;refine⟨by simp;omega,rfl,by simp,λ_=>rfl⟩
    ·have y:=Lib.run_append_grow_string (P:=P) w t L o.type d i z M N hi hz ⟨g.b3 k,0,none⟩ len (g.cap k) xs (by rw[em];exact a5)
      (λj v A=>by
       rw[add_lit,kM,cell_of_heap r1];simp only[xs] at A;rw[nh] at A;split at A
       ·simpa using A
       ·cases A) b (by omega) (by omega) (growslice_fits (by omega) (by rw[dq];omega))
     rw[<-G,<-ev] at y;obtain⟨dB,cT⟩:=en (len+b.size) (g.cap k) c0;have h1:(es.take len++lc b).length=len+b.size:=by simp;omega
     have la:gL gl ph n B O g w ⟨put s.aC o.dst (.az k ((s.bo k).cd+1) 0 (es.take len++lc b).length),dl s.bo k (.az ((s.bo k).cd+1) d 1 (es.take len++lc b) r)⟩ K:=by rw[ha,h1];simpa[c7] using J
     refine u2 (w':=w.drew.alloc (.cells (xs.toArray++(Lib.strCells b).toArray++Builtin.zeroCells z.cells (grownCap w (len+b.size) (g.cap k) d-(len+b.size))) d)) h I k (grownCap w (len+b.size) (g.cap k) d) d 1 (es.take len++lc b) r _ (by rw[h1];exact T _ _ y) rfl rfl rfl rfl ?_ (by omega) cT ?_ la
     ·rw[sh,sh,og,v1,v1,a5,Lib.strCells_length,ee];omega
     ·have:=mF.append (R:=eZ g.U w) (tl:=(Builtin.zeroCells z.cells (grownCap w (len+b.size) (g.cap k) d-(len+b.size))).toList) fp gt a5 hc W X;have e:(xs.toArray++(Lib.strCells b).toArray++Builtin.zeroCells z.cells (grownCap w (len+b.size) (g.cap k) d-(len+b.size)))=(xs++Lib.strCells b++(Builtin.zeroCells z.cells (grownCap w (len+b.size) (g.cap k) d-(len+b.size))).toList).toArray:=by apply wN;simp
      rw[e];exact this
   ·simp at l
  ·simp at l
 ·simp at l
end
end Go.Hf
