import Derived.Test.YthiipifjdfmblaaGreatDoorAa
import Derived.WalkSpells
import Derived.Lib.AppendStr
set_option linter.all false
namespace Go.Hf
open Go.RowKit
section
variable{b m off:Nat} {agg:Bool} {p:aG} {x i:Operand} {us:iP}
section
variable{P:Program} {n B bs:Nat} {O:Nat->Prop} {gl:eI} {ph:ck×cD×World×List Deferred} {g:ck} {s:df} {a:Act} {w:World} {o:Oper} {K:Act->World->Prop} {Q:Exit->Act->World->Prop}
theorem cell_of_heap{j T:Nat}{ar6:Array Value}(h:w.heap[b]? =some (.cells ar6 T (0,0))):w.cell? ⟨b,j,none⟩=ar6[j]? :=by simp[World.cell?,h]
theorem dT.FC{t:TypeId}(A:vB P t agg m){o':Nat}{cs:dA}(k:o8 agg m cs off=some p)
 (C:∀(j:Nat) (q:aG),cs[j]? =some q->∃u,w.cell? ⟨b,o'+j,none⟩=some u/\q.hK=true/\gf g w s.bo q u):
 ∃v,(loadVar t ⟨b,o'+off,none⟩).run P w= .ok v w/\dT g w s.bo p v:=by
 cases agg with
 |true=>
  simp only[o8,w6] at k;split at k
  ·rename_i I;cases k;have r:∀j,j<m->∃u,w.cell? ⟨b,o'+off+j,none⟩=some u/\∀q,cs[off+j]? =some q->q.hK=true/\gf g w s.bo q u:=by
    intro j d;have c:off+j<cs.length:=by omega
    obtain⟨u,y,D,z⟩:=C (off+j) cs[off+j] (dC c);refine⟨u,by rw[gm];exact y,λq e=>?_⟩;rw[dC c] at e;cases e;exact⟨D,z⟩
   let f:Nat->Value:=λj=>if d:j<m then(r j d).choose else undef;have E:∀j (d:j<m),w.cell? ⟨b,o'+off+j,none⟩=some (f j)/\∀q,cs[off+j]? =some q->q.hK=true/\gf g w s.bo q (f j):=by
    intro j d;have:f j=(r j d).choose:=by simp[f,d]
    rw[this];exact(r j d).choose_spec
   refine⟨.agg ((List.range m).map f).toArray,?_,?_⟩
   ·refine avf A b (o'+off) _ (by simp) (λj v F=>?_);simp only[O8,Pq] at F;obtain⟨G,l,rfl⟩:=F;have c:j<m:=by
     rcases DL j m with h|h
     ·exact h
     ·rw[qQ (by simpa using h)] at l;cases l
    have:G=j:=by simp[F6 c] at l;exact l.symm
    subst this;exact(E G c).1
   ·refine .inr (.inr (.inl ⟨_,_,rfl,rfl,by simp;omega,λj q u e H=>?_⟩));have c:j<m:=by
     rcases DL j m with h|h
     ·exact h
     ·rw[qQ (by simp;omega)] at e;cases e
    rw[eS,y1 c,lh] at e;simp only[O8,F6 c,NL,O5] at H;subst H;exact(E j c).2 q e
  ·simp at k
 |false=>simp only[o8,Nn,st] at k;obtain⟨u,y,D,z⟩:=C off p k;exact⟨u,ar2 A _ u y,.inr (.inl z)⟩
theorem auR(h:ct gl ph n B O g s a w)(hd:∀t,o.dst=some t->t<n)(Z:gA P o (.load agg m x))
 (c:b6 (c9 s.aC) s.bo (bs+o.dst.getD 0) (.load agg m x)=some (p,us))(F:gL gl ph n B O g w ⟨put s.aC o.dst p,c7 s.bo us⟩ K):o.wp P a w K Q:=by
 obtain⟨t,ho,G,hx⟩:=Z;have l:=h.fF hx;have H:∀(b o':Nat) (v:Value),a.eval x= .pointer (some ⟨b,o',none⟩)->(loadVar t ⟨b,o',none⟩).run P w= .ok v w->(execOp a.eval o).run P w= .ok (.value v) w:=by intro b o' v y z;simp only[execOp,ho,Instr.loadAt,y,Instr.sureAddr,q6,wd,MT,z]
 simp only[b6] at c;split at c
 ·rename_i k aM off A;rw[A] at l;obtain⟨_,ar,y,z⟩:=l.ju (by simp[aG.key,aG.cf]);split at c
  ·rename_i s' cs C;split at c
   ·rename_i I;subst I;simp only[Pq,pV] at c;obtain⟨W,c,rfl,rfl⟩:=c;have D:=h.ig k;rw[C] at D;obtain⟨ar6,T,r1,a1,a2,X⟩:=D;have J:=z cs C;obtain⟨v,r,E⟩:=dT.FC (s:=s) (g:=g) (w:=w) (b:=g.b3 k) (o':=0) G c (λj q d=>by obtain⟨u,L,M,N⟩:=X j q d;exact⟨u,by rw[Fa,cell_of_heap r1];exact L,M,N⟩)
    rw[Fa] at r;exact gj h hd (H _ _ v (by rw[y,J]) r) E F
   ·simp at c
  ·simp at c
 ·rename_i k aM i off A;rw[A] at l;obtain⟨_,ar,y,z⟩:=l.ju (by simp[aG.key,aG.cf]);split at c
  ·rename_i s' e sz es as0 C;split at c
   ·rename_i I;subst I;cases R:es[i]? with
    |none=>simp[R] at c
    |some cs=>
     simp only[R,h9,Pq,pV] at c;obtain⟨W,c,rfl,rfl⟩:=c;have D:=h.ig k;rw[C] at D;obtain⟨ar6,r1,a1,a2,X,bd,py,bx,cc⟩:=D;have J:=z e sz es as0 C;obtain⟨v,r,E⟩:=dT.FC (s:=s) (g:=g) (w:=w) (b:=g.b3 k) (o':=i*sz) G c (λj q d=>by obtain⟨u,L,M,N⟩:=py i j cs q R d;exact⟨u,by rw[cell_of_heap r1];exact L,M,.inl N⟩)
     exact gj h hd (H _ _ v (by rw[y,J]) r) E F
   ·simp at c
  ·simp at c
 ·rename_i cs off A;rw[A] at l;simp only[Pq,pV] at c;obtain⟨W,c,rfl,rfl⟩:=c;have e:=l.y5;cases S:a.eval x with
  |pointer q=>
   rw[S] at e;cases e with
   |ep a3 hb hc a4 a5 hv=>rename_i b o';obtain⟨v,r,E⟩:=dT.FC (s:=s) (g:=g) (w:=w) (b:=b) (o':=o') G c (λj q d=>⟨a3 j,a4 j q d,a5 j q d,.inl (hv j q d)⟩);exact gj h hd (H _ _ v S r) E F
  |_=>rw[S] at e;cases e
 ·simp at c
theorem as9{l:Nat}(h:ct gl ph n B O g s a w)(hd:∀t,o.dst=some t->t<n)(F:gA P o (.p6 l x))
 (d:b6 (c9 s.aC) s.bo (bs+o.dst.getD 0) (.p6 l x)=some (p,us))(y:gL gl ph n B O g w ⟨put s.aC o.dst p,c7 s.bo us⟩ K):o.wp P a w K Q:=by
 obtain⟨t,Z,ar,f,i,G,H,I,J,hi,L,M⟩:=F;have j:=h.fF M;have z:∀c:Addr,a.eval x= .pointer (some c)->(execOp a.eval o).run P w= .ok (.value (.pointer (some (c.add l)))) w:=by intro c r;simp only[execOp,G,Instr.fieldAt,q6,ux H,MT,I,r,Instr.sureAddr,wd,fieldPlace,run_sizeOf hi,L,st,J]
 simp only[b6] at d;split at d
 ·rename_i k aM off u;rw[u] at j;cases d;obtain⟨A,c,r,C⟩:=j.ju (by simp[aG.key,aG.cf]);refine gj (p:= .bn k aM (off+l)) h hd (z c r) (.inr (.inl (.inr ⟨A,_,rfl,λcs D=>?_⟩))) y;rw[C cs D,add_lit]
 ·rename_i k aM i' off u;rw[u] at j;cases d;obtain⟨A,c,r,C⟩:=j.ju (by simp[aG.key,aG.cf]);refine gj (p:= .dH k aM i' (off+l)) h hd (z c r) (.inr (.inl (.inr ⟨A,_,rfl,λe sz es as0 D=>?_⟩))) y;rw[C e sz es as0 D,add_lit,gm]
 ·rename_i cs off u;rw[u] at j;cases d;have e:=j.y5;cases E:a.eval x with
  |pointer q=>
   rw[E] at e;cases e with
   |ep N R S T W X=>refine gj h hd (z _ E) (.inr (.inl (.inl ?_))) y;rw[add_lit,gm];exact .ep N R S T W X
  |_=>rw[E] at e;cases e
 ·simp at d
theorem aqk(h:ct gl ph n B O g s a w)(hd:∀t,o.dst=some t->t<n)(I:gA P o (.p5 agg off m x))
 (c:b6 (c9 s.aC) s.bo (bs+o.dst.getD 0) (.p5 agg off m x)=some (p,us))(l:gL gl ph n B O g w ⟨put s.aC o.dst p,c7 s.bo us⟩ K):o.wp P a w K Q:=by
 obtain⟨t,T,W,f,r,y,z,A,J,L⟩:=I;have C:=h.fF L;simp only[b6] at c;split at c
 ·rename_i cs e;rw[e] at C;simp only[Pq,pV] at c;obtain⟨M,c,rfl,rfl⟩:=c;obtain⟨vs,D,X,E⟩:=C.x5;obtain⟨Z,d,hi,N,F,G,_⟩:=J;cases agg with
  |true=>
   simp only[o8,w6] at c;split at c
   ·rename_i ar;cases c;refine gj h hd (v:= .agg ((vs.drop off).take m).toArray) ?_ (.inr (.inr (.inl ⟨_,_,rfl,rfl,by simp;omega,λj q u k e=>?_⟩))) l
    ·simp only[execOp,r,Instr.field,q6,ux y,MT,z,D,asAgg,wd,part,yZ F,G,w6,run_sizeOf hi,N,A];simp[List.extract_eq_take_drop]
    ·rw[eS] at k e;split at k
     ·rename_i R;rw[y1 R] at e;rw[lh] at k e;exact E _ q u k e
     ·cases k
   ·simp at c
  |false=>
   simp only[o8,Nn,st] at c;have H:off<vs.length:=by have:=(e6.1 c).1;omega
   have S:vs[off]? =some vs[off]:=dC H;refine gj h hd (v:=vs[off]) ?_ (.inr (.inl (E off M _ c S).2)) l;simp only[execOp,r,Instr.field,q6,ux y,MT,z,D,asAgg,wd,part,yZ F,G,Nn,st,A];simp[H]
 ·simp at c
theorem ajg(h:ct gl ph n B O g s a w)(hd:∀t,o.dst=some t->t<n)(d:gA P o (.pJ x i))
 (c:b6 (c9 s.aC) s.bo (bs+o.dst.getD 0) (.pJ x i)=some (p,us))(q:gL gl ph n B O g w ⟨put s.aC o.dst p,c7 s.bo us⟩ K):o.wp P a w K Q:=by
 obtain⟨t,r,u,y,hi⟩:=d;have e:=h.fF y;have j:=h.fF hi;simp only[b6] at c;split at c
 ·rename_i str k m z A;rw[z] at e;rw[A] at j;split at c
  ·rename_i C;simp only[Pq,pV] at c;obtain⟨b,l,rfl,rfl⟩:=c;have E:m.toNat<str.size:=by have:=(e6.1 l).1;simpa using this
   have D:str[m.toNat]=b:=by have:=(e6.1 l).2;simp at this;exact this
   refine gj h hd (v:= .int .u8 b.toNat) ?_ (.bu rfl) q;have d:=run_index_string (P:=P) w t str k m u;rw[dif_pos ⟨C,by omega⟩,D] at d;simp only[execOp,r,e.fB.1,j.fB.1,q6,d,MT,wd]
  ·simp at c
 ·simp at c
theorem arz{sz:Nat}(h:ct gl ph n B O g s a w)(hd:∀t,o.dst=some t->t<n)(Z:gA P o (.ji sz x i))
 (d:b6 (c9 s.aC) s.bo (bs+o.dst.getD 0) (.ji sz x i)=some (p,us))(R:gL gl ph n B O g w ⟨put s.aC o.dst p,c7 s.bo us⟩ K):o.wp P a w K Q:=by
 obtain⟨t,e,c0,ho,ht,ar,a1,hx,hi⟩:=Z;have A:=h.fF hx;have C:=h.fF hi;have S:∀(k:IntKind) (m:Int) (D:Addr) (len E:Nat),a.eval i= .int k m->a.eval x= .slice (some D) len E->0<=m->m<len->
  (execOp a.eval o).run P w= .ok (.value (.pointer (some (D.add (m.toNat*sz))))) w:=by
  intro k m D len E r T F G;simp[execOp,ho,Instr.indexAt,r,asIntOf,ux ht,T,F,G,run_sizeOf ar,a1]
 simp only[b6] at d;split at d
 ·rename_i u es k m H I;rw[H] at A;rw[I] at C;split at d
  ·rename_i J;obtain⟨L,J⟩:=J;subst L;simp only[Pq,pV] at d;obtain⟨cs,y,rfl,rfl⟩:=d;have r:=A.u3;have a2:m.toNat<es.length:=(e6.1 y).1;cases M:a.eval x with
   |slice q l c=>
    rw[M] at r;cases r with
    |aQ a3 c1 c2 hb N a4 a5 bd bx=>rename_i b o';refine gj h hd (S k m _ _ _ C.fB.1 M J (by omega)) (.inr (.inl (.inl ?_))) R;rw[add_lit];have hl:=a4 _ _ y;have h3:(m.toNat+1)*u<=es.length*u:=dr u a2;rw[xB,yy] at h3;have h4:=N (by omega);refine eZ.ep (o:=o'+m.toNat*u) (off:=0) (a3 m.toNat) hb (by omega) (λj p z=>?_) (λj p z=>bd _ _ _ _ y z) (λj p z=>bx _ _ _ _ y z);rw[gm];exact a5 _ _ _ _ y z
   |_=>rw[M] at r;cases r
  ·simp at d
 ·rename_i k aM off len cc m H I;rw[H] at A;rw[I] at C;split at d
  ·rename_i s' e' u es as0 W;split at d
   ·rename_i N;obtain⟨cl,L,F,G⟩:=N;subst cl;subst L;cases d;obtain⟨cn,b,o',E,r,T,c3,cp⟩:=A.ju (by simp[aG.key,aG.cf]);obtain⟨f1,f2,f3,f4⟩:=cp _ _ _ _ W;refine gj (p:= .dH k aM (off+m.toNat) 0) h hd (S cc m _ _ _ C.fB.1 r F G) (.inr (.inl (.inr ⟨cn,_,rfl,λc4 c5 dd dq X=>?_⟩))) R;rw[W] at X;cases X;rw[add_lit,f2,f3 (.inl (by omega)),gU,xB]
   ·simp at d
  ·simp at d
 ·simp at d
theorem azF{neg:Bool}(h:ct gl ph n B O g s a w)(hd:∀t,o.dst=some t->t<n)(F:gA P o (.pK neg x))
 (j:b6 (c9 s.aC) s.bo (bs+o.dst.getD 0) (.pK neg x)=some (p,us))(y:gL gl ph n B O g w ⟨put s.aC o.dst p,c7 s.bo us⟩ K):o.wp P a w K Q:=by
 obtain⟨t,H,e,u,D,G⟩:=F;have k:=h.fF G;have z:∀(q:Option Addr) (l c:Nat),a.eval x= .slice q l c->(execOp a.eval o).run P w= .ok (.value (.bool (xor neg q.isNone))) w:=by
  intro q l c d;have E:a.eval (.const (.slice none 0 0))= .slice none 0 0:=rfl;cases neg
  ·simp only[r5,Nn,st] at u;have A:=Lib.run_eql_slice_nil (P:=P) w t e q l c 0 0 D;simp only[execOp,u,d,E,eqGuard,q6,wd];simp;rw[A];simp
  ·simp only[r5,w6] at u;have A:=run_neq_slice_nil_any (P:=P) w t e q l c 0 0 D;simp only[execOp,u,d,E,eqGuard,q6,wd];simp;rw[A];simp
 simp only[b6] at j;split at j
 ·rename_i r;rw[r] at k;cases j;have:=z _ _ _ k.fB.1;refine gj h hd (v:= .bool !neg) (by rw[this];cases neg<;>rfl) (.bu rfl) y
 ·rename_i sz es r;rw[r] at k;cases j;have d:=k.u3;cases C:a.eval x with
  |slice q l c=>rw[C] at d;cases d;have:=z _ _ _ C;refine gj h hd (v:= .bool neg) (by rw[this];cases neg<;>rfl) (.bu rfl) y
  |_=>rw[C] at d;cases d
 ·rename_i r;rw[r] at k;cases j;obtain⟨_,b,o',I,d,_⟩:=k.ju (by simp[aG.key,aG.cf]);have:=z _ _ _ d;refine gj h hd (v:= .bool neg) (by rw[this];cases neg<;>rfl) (.bu rfl) y
 ·simp at j
end
end
section
variable{x:Operand} {p:aG} {us:iP} {lo hi:Option Operand}
section
variable{P:Program} {n B bs:Nat} {O:Nat->Prop} {gl:eI} {ph:ck×cD×World×List Deferred} {g:ck} {s:df} {a:Act} {w:World} {o:Oper} {K:Act->World->Prop} {Q:Exit->Act->World->Prop}
theorem aqb{t:TypeId}{f1 f2:Field}(j:P.underlying t=some (.struct #[f1,f2]))(aS:f1.name≠ "_")(cZ:f2.name≠ "_")(eR:f1.offset=0)(r:f2.offset=1)
 (k:P.underlying f1.type=some .string)(l:P.underlying f2.type=some .string)(u:P.stoodInHeld t=false)(b c d e:ByteArray):
 (Op.equalIn 10000 t (.agg #[.string b,.string c]) (.agg #[.string d,.string e])).run P w= .ok (b.toList==d.toList&&c.toList==e.toList) w:=by
 have q:P.fieldsOf t= #[f1,f2]:=by simp[Program.fieldsOf,j]
 rw[run_equalIn_struct (P:=P) w 9999 t _ _ (by rw[q];exact j) u,q];have y:(Op.equalIn 9999 f1.type (.string b) (.string d)).run P w= .ok (b.toList==d.toList) w:=run_equalIn_string (P:=P) w 9998 f1.type b d k;have z:(Op.equalIn 9999 f2.type (.string c) (.string e)).run P w= .ok (c.toList==e.toList) w:=run_equalIn_string (P:=P) w 9998 f2.type c e l;have A:∀h i:Value,(part f1.type #[h,i] f1.offset).run P w= .ok h w:=by intro h i;simp[part,yZ k,Ax,eR]
 have C:∀h i:Value,(part f2.type #[h,i] f2.offset).run P w= .ok i w:=by intro h i;simp[part,yZ l,Ax,r]
 simp only[Op.eqFields,ne_eq,aS,cZ,not_false_eq_true,w6,q6,A,MT,y];cases b.toList==d.toList
 ·simp
 ·simp only[tF,Nn,st,q6,C,MT,z,gy];cases c.toList==e.toList<;>simp
theorem apo{neg:Bool}{y:Operand}(h:ct gl ph n B O g s a w)(hd:∀t,o.dst=some t->t<n)(H:gA P o (.qn neg x y))
 (b:b6 (c9 s.aC) s.bo (bs+o.dst.getD 0) (.qn neg x y)=some (p,us))(I:gL gl ph n B O g w ⟨put s.aC o.dst p,c7 s.bo us⟩ K):o.wp P a w K Q:=by
 obtain⟨t,a5,f1,f2,c,J,aS,cZ,eR,L,M,N,R,k,e,S⟩:=H;have l:=h.fF e;have r:=h.fF S;have u:∀{q:aG} {v:Value} {i j:ByteArray},q= .agg [.bu (.string i),.bu (.string j)]->dT g w s.bo q v->v= .agg #[.string i,.string j]:=by
  intro q v i j T e;subst T;obtain⟨vs,rfl,W,d⟩:=e.x5
  match vs,W with
  |[X,Z],_=>have a1:=(d 0 _ X rfl rfl).2;have a2:=(d 1 _ Z rfl rfl).2;have ar:=(dT.fB (.inr (.inl a1))).1;have a3:=(dT.fB (.inr (.inl a2))).1;rw[ar,a3]
 simp only[b6] at b;split at b
 ·rename_i z A C D a4 d;rw[a4] at l;rw[d] at r;cases b;have E:=u rfl l;have F:=u rfl r;have G:=aqb (P:=P) (w:=w) J aS cZ eR L M N R z A C D;refine gj h hd (v:= .bool (xor neg (z.toList==C.toList&&A.toList==D.toList))) ?_ (.bu rfl) I;cases neg
  ·simp only[r5,Nn,st] at c;simp only[execOp,c,E,F,q6,run_eqGuard_agg w .eql t x y _ _ k,MT,run_eql_struct,G,wd];simp
  ·simp only[r5,w6] at c;simp only[execOp,c,E,F,q6,run_eqGuard_agg w .neq t x y _ _ k,MT,run_neq_struct,G,wd];simp
 ·simp at b
def D6(asy:Nat)(b:Option Value)(m:Nat):Prop:=(b=none/\m=asy)\/∃k i,b=some (.int k i)/\0<=i/\m=i.toNat
theorem ct.uN(h:ct gl ph n B O g s a w){asy m:Nat}{ox:Option Operand}(c:(nc ox).all cJ=true)(b:tP (c9 s.aC) asy ox=some m):D6 asy (ox.map a.eval) m:=by
 cases ox with
 |none=>simp only[tP,O5] at b;exact .inl ⟨rfl,b.symm⟩
 |some x=>
  have d:cJ x=true:=by simpa[nc] using c
  have e:=h.fF d;simp only[tP] at b;split at b
  ·rename_i k i j;rw[j] at e;split at b
   ·rename_i l;cases b;exact .inr ⟨k,i,by simp[e.fB.1],l,rfl⟩
   ·simp at b
  ·simp at b
theorem SG(b:Bool)(len c:Nat)(lo hi:Option Value)(l r:Nat)(z:D6 0 lo l)(A:D6 len hi r)(h:l<=r)(j:r<=c):
 (Instr.sliceBounds b len c lo hi none).run P w= .ok (l,r,c) w:=by
 have d:∀(e:BoundsCode) (k:IntKind) (i:Int) (y:Nat),0<=i->i.toNat<=y->(Instr.sliceBound (.int k i) y e).run P w= .ok i.toNat w:=by intro e k i y C D;exact run_sliceBound w k i y e C (by omega)
 rcases z with⟨rfl,rfl⟩|⟨k,i,rfl,q,rfl⟩<;>rcases A with⟨rfl,rfl⟩|⟨t,i',rfl,u,rfl⟩
 ·simp[Instr.sliceBounds]
 ·simp[Instr.sliceBounds,d _ t i' c u j]
 ·simp[Instr.sliceBounds,d _ k i r q h]
 ·simp[Instr.sliceBounds,d _ t i' c u j,d _ k i i'.toNat q h]
theorem agd(h:ct gl ph n B O g s a w)(hd:∀t,o.dst=some t->t<n)(c:gA P o (.p9 x lo hi))
 (b:b6 (c9 s.aC) s.bo (bs+o.dst.getD 0) (.p9 x lo hi)=some (p,us))(k:gL gl ph n B O g w ⟨put s.aC o.dst p,c7 s.bo us⟩ K):o.wp P a w K Q:=by
 obtain⟨t,q,e,u,d⟩:=c;have i:=h.fF u;simp only[List.all_append,Hi] at d;simp only[b6] at b;split at b
 ·rename_i str y;rw[y] at i;split at b
  ·rename_i l r z c;split at b
   ·rename_i j;cases b;refine gj h hd (v:= .string (str.extract l r)) ?_ (.bu rfl) k;have A:=SG (P:=P) (w:=w) false str.size str.size _ _ l r (h.uN d.1 z) (h.uN d.2 c) j.1 j.2;simp only[execOp,q,i.fB.1,Option.map_none,q6,run_sliceAt_string w t _ _ _ _ e,Instr.slice,ux e,MT];simp;rw[A];simp
   ·simp at b
  ·simp at b
 ·simp at b
theorem axN{sz:Nat}(h:ct gl ph n B O g s a w)(hd:∀t,o.dst=some t->t<n)(D:gA P o (.o9 sz x lo hi))
 (d:b6 (c9 s.aC) s.bo (bs+o.dst.getD 0) (.o9 sz x lo hi)=some (p,us))(S:gL gl ph n B O g w ⟨put s.aC o.dst p,c7 s.bo us⟩ K):o.wp P a w K Q:=by
 obtain⟨t,e,i,ho,ht,a5,bd,hx,E⟩:=D;have I:=h.fF hx;simp only[List.all_append,Hi] at E;have X:∀(q:Option Addr) (len z l r:Nat),a.eval x= .slice q len z->D6 0 (lo.map a.eval) l->D6 len (hi.map a.eval) r->l<=r->r<=z->
  (execOp a.eval o).run P w= .ok (.value (.slice (if z=l then q else q.map (·.add (l*sz))) (r-l) (z-l))) w:=by
  intro q len z l r A F G h3 h4;have T:=SG (P:=P) (w:=w) true len z _ _ l r F G h3 h4;simp only[execOp,ho,A,Option.map_none,Instr.sliceAt,Instr.slice,q6,ux ht,MT,T,run_sizeOf a5,bd,wd]
 simp only[b6] at d;split at d
 ·rename_i u es J;rw[J] at I;split at d
  ·rename_i l r L D;split at d
   ·rename_i bx;obtain⟨rfl,Z,em⟩:=bx;cases d;have A:=I.u3;cases he:a.eval x with
    |slice q l' c=>
     rw[he] at A;cases A with
     |aQ cc en hm T hc cl cn cp hv=>
      rename_i b o';have a1:((es.drop l).take (r-l)).length=r-l:=by simp;omega
      have W:∀(k:Nat) (cs:dA),((es.drop l).take (r-l))[k]? =some cs->es[l+k]? =some cs/\k<r-l:=by
       intro k cs y;rw[eS] at y;split at y
       ·rename_i c0;rw[lh] at y;exact⟨y,c0⟩
       ·cases y
      refine gj h hd (X _ _ _ l r he (h.uN E.1 L) (h.uN E.2 D) Z (by omega)) (.inr (.inl (.inl ?_))) S;by_cases M:c=l
      ·rw[y1 M];have hz:r-l=0:=by omega
       have c1:(es.drop l).take (r-l)=[]:=by rw[hz];simp
       rw[c1];have:(aG.aQ u [])= .aQ u []:=rfl;have a2:r-l=([]:kO).length:=by simpa using hz
       rw[a2];exact .aQ (λ_ _=>undef) (by simp) (by omega) T (by simp) (by simp) (by simp) (by simp) (by simp)
      ·rw[Ca M];simp only[NL,add_lit];have a3:eZ g.U w (.aQ u ((es.drop l).take (r-l))) (.slice (some ⟨b,o'+l*u,none⟩) ((es.drop l).take (r-l)).length (c-l)):=by
        refine .aQ (λk j=>cc (l+k) j) (by omega) (by omega) T (λeq=>?_) (λk cs y=>cl _ _ (W k cs y).1) (λk j cs q y N=>?_) (λk j cs q y N=>cp _ _ _ _ (W k cs y).1 N) (λk j cs q y N=>hv _ _ _ _ (W k cs y).1 N)
        ·have h5:=hc (by omega);rw[a1];have c2:(l+(r-l))*u<=es.length*u:=dr _ (by omega);rw[xB] at c2;omega
        ·have:=cn (l+k) j cs q (W k cs y).1 N;rw[xB] at this;rw[show o'+l*u+(k*u+j)=o'+(l*u+k*u+j) by omega];exact this
       rw[a1] at a3;exact a3
    |_=>rw[he] at A;cases A
   ·simp at d
  ·simp at d
 ·rename_i k aM off len J;rw[J] at I;split at d
  ·rename_i l r s' e' u es as0 L D ar;split at d
   ·rename_i hc;obtain⟨c3,c4,Z,a2⟩:=hc;subst c3;subst c4;cases d;obtain⟨a4,b,o',z,A,ev,fn,c5⟩:=I.ju (by simp[aG.key,aG.cf]);obtain⟨f1,f2,f3,f4⟩:=c5 _ _ _ _ ar;have H:=X _ _ _ l r A (h.uN E.1 L) (h.uN E.2 D) Z (by omega);by_cases M:z=l
    ·rw[y1 M] at H;refine gj (p:= .az k aM (off+l) (r-l)) h hd H (.inr (.inl (.inr ⟨a4,b,o',z-l,rfl,by omega,by omega,λdd dq dt dz R=>?_⟩))) S;rw[ar] at R;cases R;refine⟨by omega,f2,λC=>?_,λC=>?_⟩
     ·rcases C with C|C
      ·omega
      ·have F:off=0:=by omega
       have G:l=0:=by omega
       subst F;subst G;exact f3 (.inr rfl)
     ·have F:off=0:=by omega
      have G:l=0:=by omega
      subst G;simpa using f4 F
    ·rw[Ca M] at H;simp only[NL,add_lit] at H;refine gj (p:= .az k aM (off+l) (r-l)) h hd H (.inr (.inl (.inr ⟨a4,b,o'+l*u,z-l,rfl,by omega,by omega,λdd dq dt dz R=>?_⟩))) S;rw[ar] at R;cases R;refine⟨by omega,f2,λC=>?_,λC=>?_⟩
     ·have ee:o'=off*u:=by
       rcases C with C|C
       ·exact f3 (.inl (by omega))
       ·exact f3 (.inr (by omega))
      rw[ee,xB]
     ·have F:off=0:=by omega
      have G:l=0:=by omega
      subst G;simpa using f4 F
   ·simp at d
  ·simp at d
 ·rename_i J;rw[J] at I;split at d
  ·rename_i L D;cases d;have A:=I.fB.1;have H:=X _ _ _ 0 0 A (h.uN E.1 L) (h.uN E.2 D) (sm _) (sm _);exact gj h hd H (.bu rfl) S
  ·simp at d
 ·simp at d
end
end
section
variable{y:Go.Obj} {d cap t k aM sz m:Nat} {cs:dA} {p:aG} {us:iP} {x:Operand} {ob:cD} {v:Value}
section
variable{P:Program} {n B bs:Nat} {O:Nat->Prop} {gl:eI} {ph:ck×cD×World×List Deferred} {g:ck} {s:df} {a:Act} {w w':World} {o:Oper} {K:Act->World->Prop} {Q:Exit->Act->World->Prop}
theorem Oa(c:w'.heap=w.heap.push y){b:Nat}(e:b<w.heap.size):w'.heap[b]? =w.heap[b]? :=by rw[c,Array.getElem?_push,cz]
theorem Uf(b:w'.heap=w.heap.push y):w'.heap[w.heap.size]? =some y:=by rw[b,Array.getElem?_push,y1 rfl]
def ck.new(g:ck)(w:World)(d cap:Nat):ck:=⟨dl g.U w.heap.size 0,dl g.b3 d w.heap.size,dl g.cap d cap⟩
theorem gk.push(g:ck)(h:w'.heap=w.heap.push y):gk g.U w (g.new w d cap).U w':=by
 refine⟨by rw[h];simp,λb e=>?_,λb i e hi=>?_⟩
 ·simp[ck.new,dl,Nat.ne_of_lt e]
 ·simp only[World.cell?,Oa h e]
theorem gn.push(h:ct gl ph n B O g s a w)(e:w'.heap=w.heap.push y)(i:w'.os=w.os)(j:w'.tape=w.tape)(l:w'.output=w.output):
 gn B O g.U w (g.new w d cap).U w':=by
 have r:=h.kK;refine⟨i,j,l,by rw[e];simp,λb q _=>Oa e (by omega),λb q _=>?_⟩;have:b≠w.heap.size:=by omega
 simp[ck.new,dl,this]
theorem fY.new(g:ck)(ob:cD)(w:World)(d cap:Nat)(x:Obj)(c:(ob d).cd<x.cd):fY g ob (g.new w d cap) (dl ob d x):=by
 intro k;by_cases h:k=d
 ·subst h;simp only[iM];refine⟨by omega,λcs b=>?_,λe sz es as0 b=>?_,λes b=>?_⟩
  ·rw[b] at c;exact absurd c (kf _)
  ·rw[b] at c;exact absurd c (kf _)
  ·rw[b] at c;exact absurd c (kf _)
 ·simp only[ir _ _ h];refine⟨sm _,λcs b=>⟨⟨cs,b⟩,?_⟩,λe sz es as0 b=>⟨⟨es,as0,b,sm _⟩,?_,?_⟩,λes b=>⟨⟨es,b⟩,?_⟩⟩<;>simp[ck.new,dl,h]
theorem ct.new(h:ct gl ph n B O g s a w){y:Go.Obj}(d cap:Nat)(x:Obj)(r:(s.bo d).cd<x.cd)(b:w'.heap=w.heap.push y)
 (u:kR (g.new w d cap) w' (dl s.bo d x) d x):ct gl ph n B O (g.new w d cap) ⟨s.aC,dl s.bo d x⟩ a w':=by
 refine h.zp (dl s.bo d x) (· =d) (gk.push g b) (fY.new g s.bo w d cap x r) (λk c=>ir _ _ c) (λk i j=>?_) (λk c j=>?_)
 ·have e:=(h.jI k j).2;refine⟨by simp[ck.new,dl,i],by simp[ck.new,dl,i],by simp[ck.new,dl,Nat.ne_of_lt e],Oa b e⟩
 ·subst c;have A:=h.kK;refine⟨by rw[iM];exact u,.inl (by simp[ck.new,dl];omega),by rw[b];simp[ck.new,dl],λz l q=>?_⟩;rw[ir _ _ l] at q;have e:=(h.jI z q).2;simp[ck.new,dl,l];omega
theorem gf.new{ob:cD}(g:ck){y:Go.Obj}{d cap:Nat}{x:Obj}(b:(ob d).cd<x.cd)(c:w'.heap=w.heap.push y){p:aG}{v:Value}
 (h:gf g w ob p v):gf (g.new w d cap) w' (dl ob d x) p v:=h.step (gk.push g c) (fY.new g ob w d cap x b)
theorem VD(h:ct gl ph n B O g s a w)(hd:∀t,o.dst=some t->t<n)(G:o.dst.isSome=true){T:Nat}{ar6:Array Value}
 (e:(execOp a.eval o).run P w= .ok (.value (.pointer (some ⟨w.heap.size,0,none⟩))) (w.alloc (.cells ar6 T)))(i:ar6.size=cs.length)(l:T<65536)
 (r:∀(j:Nat) (q:aG),cs[j]? =some q->∃u,ar6[j]? =some u/\q.hK=true/\gf g w s.bo q u)
 (z:gL gl ph n B O g w ⟨put s.aC o.dst (.bn (bs+o.dst.getD 0) (jG (s.bo (bs+o.dst.getD 0)).cd T) 0),c7 s.bo [(bs+o.dst.getD 0,.box (jG (s.bo (bs+o.dst.getD 0)).cd T) cs)]⟩ K):o.wp P a w K Q:=by
 generalize bs+o.dst.getD 0=d at*;have b:(w.alloc (.cells ar6 T)).heap=w.heap.push (.cells ar6 T (0,0)):=rfl;have c:(s.bo d).cd<(Obj.box (jG (s.bo d).cd T) cs).cd:=aBu _ _;have A:=h.new (w':=w.alloc (.cells ar6 T)) d 0 (.box (jG (s.bo d).cd T) cs) c b (by
  refine⟨ar6,T,?_,⟨i,aAg l⟩,?_,λj q C=>?_⟩
  ·simp only[ck.new,iM];exact Uf b
  ·simp[ck.new,dl]
  ·obtain⟨u,D,E,F⟩:=r j q C;exact⟨u,D,E,F.new g c b⟩)
 refine wK e (z _ _ _ (by exact A.put o.dst hd (p:= .bn d (jG (s.bo d).cd T) 0) (v:= .pointer (some ⟨w.heap.size,0,none⟩)) (.inr (.inl (.inr ⟨by simp[dl,Obj.cd],_,rfl,λasq _=>by simp[ck.new,dl]⟩)))) (gn.push h b rfl rfl rfl))
theorem aj0{zero:List Value}(h:ct gl ph n B O g s a w)(hd:∀t,o.dst=some t->t<n)(u:gA P o (.alloc t zero))
 (c:b6 (c9 s.aC) s.bo (bs+o.dst.getD 0) (.alloc t zero)=some (p,us))(A:gL gl ph n B O g w ⟨put s.aC o.dst p,c7 s.bo us⟩ K):o.wp P a w K Q:=by
 obtain⟨C,D,E,sz,i,z,hi,F,e,_,_,G⟩:=u;simp only[b6] at c;cases c;refine VD h hd E (ar6:=z.cells) (T:=t) ?_ ?_ D ?_ A
 ·simp only[execOp,C,Instr.alloc,q6,CE hi F,MT,newVar,newRow,run_newObj,wd]
 ·rw[<-e];simp
 ·intro j q l;simp only[O8,Pq] at l;obtain⟨v,b,rfl⟩:=l;have r:iO v=true:=M2.1 G v (On b);exact⟨v,by rw[<-e] at b;simpa using b,r,.inl (.bu r)⟩
theorem akd(h:ct gl ph n B O g s a w)(hd:∀t,o.dst=some t->t<n)(c:gA P o (.box t x))
 (b:b6 (c9 s.aC) s.bo (bs+o.dst.getD 0) (.box t x)=some (p,us))(e:gL gl ph n B O g w ⟨put s.aC o.dst p,c7 s.bo us⟩ K):o.wp P a w K Q:=by
 obtain⟨i,l,r,z⟩:=c;have A:=h.fF z;simp only[b6] at b;split at b
 ·rename_i cs C;cases b;obtain⟨D,E⟩:=A.cells C;refine VD h hd r (ar6:=(a.eval x).cells) (T:=t) ?_ (by simpa using D) l (λj q F=>?_) e
  ·simp only[execOp,i,Instr.box,q6,MT,newVar,newRow,run_newObj,wd]
  ·obtain⟨u,G,H⟩:=E j q F;exact⟨u,by simpa using G,H⟩
 ·simp at b
theorem ct.wz(h:ct gl ph n B O g s a w)(k:Nat)(x:Obj)(ar6:Array Value)(j:(s.bo k).fx)(R:g.U (g.b3 k)=0)
 (E:fY g s.bo g (dl s.bo k x))(F:kR g (w.setRow (g.b3 k) ar6) (dl s.bo k x) k x):
 ct gl ph n B O g ⟨s.aC,dl s.bo k x⟩ a (w.setRow (g.b3 k) ar6)/\gn B O g.U w g.U (w.setRow (g.b3 k) ar6):=by
 obtain⟨G,H,I,a4⟩:=D0 w (g.b3 k) ar6;have l:∀b,b≠g.b3 k->(w.setRow (g.b3 k) ar6).heap[b]? =w.heap[b]? :=λb q=>pU w (g.b3 k) b ar6 (λe=>q (by simpa using e));have J:gk g.U w g.U (w.setRow (g.b3 k) ar6):=by
  refine⟨by omega,λ_ _=>sm _,λb i q hi=>?_⟩;by_cases u:b=g.b3 k
  ·subst u;omega
  ·simp only[World.cell?,l b u]
 refine⟨h.zp (dl s.bo k x) (· =k) J E (λc L=>ir _ _ L) (λc r z=>?_) (λc r z=>?_),⟨G,H,I,by omega,λb q M=>l b ?_,λ_ _ _=>rfl⟩⟩
 ·exact⟨rfl,rfl,rfl,l _ (λe=>r (h.inj c k z j e))⟩
 ·subst r;refine⟨by rw[iM];exact F,(h.jI c j).1,by rw[a4];exact(h.jI c j).2,λN A C=>?_⟩;rw[ir _ _ A] at C;exactλe=>A (h.inj N c C j e)
 ·intro e;subst e;rcases(h.jI k j).1 with D|D
  ·omega
  ·exact M D
theorem gk.wz(g:ck)(w:World)(b:Nat)(ar6:Array Value)(j:g.U b=0):gk g.U w g.U (w.setRow b ar6):=by
 obtain⟨l,q,r,a4⟩:=D0 w b ar6;refine⟨by omega,λ_ _=>sm _,λc i u hi=>?_⟩;by_cases h:c=b
 ·subst h;omega
 ·simp only[World.cell?,pU w b c ar6 (λe=>h (by simpa using e))]
theorem fY.box(g:ck){asq:dA}(h:ob k= .box aM cs):fY g ob g (dl ob k (.box aM asq)):=by
 intro e;by_cases c:e=k
 ·subst c;rw[iM,h];exact⟨sm _,λ_ _=>⟨⟨cs,rfl⟩,rfl⟩,(λ_ _ _ _ b=>by cases b),(λ_ b=>by cases b)⟩
 ·rw[ir _ _ c];exact⟨sm _,λcs b=>⟨⟨cs,b⟩,rfl⟩,λ_ _ es as0 b=>⟨⟨es,as0,b,sm _⟩,rfl,rfl⟩,λes b=>⟨⟨es,b⟩,rfl⟩⟩
theorem fY.az(g:ck){e:Nat}{es asH:kO}{as0 as2:Bool}(h:ob k= .az aM e sz es as0)(i:es.length<=asH.length):fY g ob g (dl ob k (.az aM e sz asH as2)):=by
 intro j;by_cases c:j=k
 ·subst c;rw[iM,h];refine⟨sm _,(λ_ b=>by cases b),λl q r u b=>?_,(λ_ b=>by cases b)⟩;cases b;exact⟨⟨es,as0,rfl,i⟩,rfl,rfl⟩
 ·rw[ir _ _ c];exact⟨sm _,λcs b=>⟨⟨cs,b⟩,rfl⟩,λ_ _ es as0 b=>⟨⟨es,as0,b,sm _⟩,rfl,rfl⟩,λes b=>⟨⟨es,b⟩,rfl⟩⟩
theorem xc{α:Type}(l new:List α)(off j:Nat)(h:off+new.length<=l.length):
 (l.take off++new++l.drop (off+new.length))[j]? =if j<off then l[j]? else if j<off+new.length then new[j-off]? else l[j]? :=by
 simp only[Ih,OD,jl,eS,lh];have e:min off l.length=off:=by omega
 rw[e];by_cases b:j<off
 ·simp[b,(by omega:j<off+new.length)]
 ·by_cases c:j<off+new.length
  ·simp[b,c]
  ·simp only[b,c,st];congr 1;omega
theorem lP.s9(h:lP g ob p v):p.key≠[]:=by
 cases p with
 |gJ f ar9=>exact h.1
 |bn=>simp[aG.key,aG.cf]
 |az=>simp[aG.key,aG.cf]
 |dH=>simp[aG.key,aG.cf]
 |hG=>simp[aG.key,aG.cf]
 |_=>exact h.elim
theorem ac3{ob:cD}:∀{cs b:dA},(∀q∈cs,q.key=[])->oE ob cs=some b->b=cs
 |[],b,_,h=>by simp[oE] at h;exact h
 |p::l,b,c,h=>by
  simp only[oE] at h;split at h
  ·rename_i q r u e;cases h;have i:q=p:=by have:=c p (by simp);cases p<;>simp_all [gV,aG.key,aG.cf]
   rw[i,ac3 (λq j=>c q (by simp[j])) e]
  ·simp at h
theorem dT.afy{q:aG}(h:dT g w ob p v)(c:p.cR=[])(b:qG ob p=some q):q=p/\eZ g.U w p v:=by
 cases p with
 |bu u=>simp only[qG,gV,O5] at b;obtain⟨rfl,A⟩:=h.fB;exact⟨b.symm,.bu A⟩
 |aQ sz es=>simp only[qG,gV,O5] at b;exact⟨b.symm,h.u3⟩
 |ep cs off=>simp only[qG,gV,O5] at b;exact⟨b.symm,h.y5⟩
 |agg cs=>
  simp only[aG.cR,aG.eg,n7] at c;simp only[qG,Pq] at b;obtain⟨F,C,rfl⟩:=b;rw[ac3 c C];obtain⟨vs,rfl,D,z⟩:=h.x5;have E:∀(j:Nat) (r:aG),cs[j]? =some r->∃u,vs[j]? =some u:=λj r e=>⟨vs[j]'(by have:=(e6.1 e).1;omega),dC _⟩;refine⟨rfl,.agg D (λj r e=>?_) (λj r u e i=>?_)⟩
  ·obtain⟨u,i⟩:=E j r e;exact(z j r u e i).1
  ·rcases(z j r u e i).2 with l|l
   ·exact l
   ·exact absurd (c r (On e)) l.s9
 |undef=>simp[qG,gV] at b
 |a0=>simp[qG,gV] at b
 |bn=>simp[aG.cR,aG.eg,aG.key,aG.cf] at c
 |az=>simp[aG.cR,aG.eg,aG.key,aG.cf] at c
 |dH=>simp[aG.cR,aG.eg,aG.key,aG.cf] at c
 |hG=>simp[aG.cR,aG.eg,aG.key,aG.cf] at c
 |gJ=>simp[qG,gV] at b
theorem Vm{i i' j off:Nat}(c:j<sz)(e:off+m<=sz)(h:i'≠i):¬(i*sz+off<=i'*sz+j/\i'*sz+j<i*sz+off+m):=by
 rcases Nat.lt_or_gt_of_ne h with b|b
 ·have:=dr sz (show i'+1<=i from b);rw[xB,yy] at this;omega
 ·have:=dr sz (show i+1<=i' from b);rw[xB,yy] at this;omega
theorem aiD{v:Operand}(h:ct gl ph n B O g s a w)(hd:∀t,o.dst=some t->t<n)(hr:gA P o (.store m x v))
 (D:b6 (c9 s.aC) s.bo (bs+o.dst.getD 0) (.store m x v)=some (p,us))(hk:gL gl ph n B O g w ⟨put s.aC o.dst p,c7 s.bo us⟩ K):o.wp P a w K Q:=by
 obtain⟨t,hf,ho,ht,hx,hv⟩:=hr;have ex:=h.fF hx;have ev:=h.fF hv;have dq:∀(b o':Nat) (bx:World),a.eval x= .pointer (some ⟨b,o',none⟩)->(storeVar t ⟨b,o',none⟩ (a.eval v)).run P w= .ok () bx->(execOp a.eval o).run P w= .ok .skip bx:=by intro b o' bx W X;simp only[execOp,ho,Instr.storeAt,W,Instr.sureAddr,q6,wd,MT,X]
 simp only[b6] at D;split at D
 ·rename_i k aM off cc;rw[cc] at ex;obtain⟨_,dz,W,X⟩:=ex.ju (by simp[aG.key,aG.cf]);split at D
  ·rename_i s' cs new J l;split at D
   ·rename_i hc;obtain⟨rfl,Z,ee⟩:=hc;cases D;obtain⟨H,ar⟩:=ev.cells l;have a1:=h.ig k;rw[J] at a1;obtain⟨ar6,T,r1,em,N,a3⟩:=a1;have cl:=X cs J;have cn:∀u∈(a.eval v).cells.toList,u.oneCell'=true:=by
     intro u cp;obtain⟨j,A⟩:=vg.1 cp;have R:j<new.length:=by have:=(e6.1 A).1;omega
     obtain⟨u',r,z,c⟩:=ar j new[j] (dC R);rw[A] at r;cases r;exact c.pI z
    have c0:=aa9 (P:=P) (w:=w) ht (g.b3 k) off T ar6 (a.eval v) r1 (by simpa[Z] using H) (by omega) cn;have c3:(s.bo k).fx:=by rw[J];trivial
    let E:Array Value:=(ar6.toList.take off++(a.eval v).cells.toList++ar6.toList.drop (off+m)).toArray;have S:=fY.box g (asq:=mO cs off new) J;have L:=gk.wz g w (g.b3 k) E N;have a2:=h.wz k (.box aM (mO cs off new)) E c3 N S (by
     refine⟨E,T,D4 w (g.b3 k) ar6 E T (0,0) r1,?_,N,λj q F=>?_⟩
     ·simp[E,mO];simp at H;omega
     ·have en:=xc cs new off j (by omega);have a4:=xc ar6.toList (a.eval v).cells.toList off j (by rw[H];simp;omega);simp only[mO] at F;rw[en] at F;have eq:E[j]? =(ar6.toList.take off++(a.eval v).cells.toList++ar6.toList.drop (off+(a.eval v).cells.toList.length))[j]? :=by simp only[E,H,Z];simp
      rw[eq,a4];rw[H];by_cases c1:j<off
      ·rw[y1 c1] at F ⊢;obtain⟨u,r,z,c⟩:=a3 j q F;exact⟨u,by simpa using r,z,c.step L S⟩
      ·rw[Ca c1] at F ⊢;by_cases c2:j<off+new.length
       ·rw[y1 c2] at F ⊢;obtain⟨u,r,z,c⟩:=ar (j-off) q F;exact⟨u,r,z,c.step L S⟩
       ·rw[Ca c2] at F ⊢;obtain⟨u,r,z,c⟩:=a3 j q F;exact⟨u,by simpa using r,z,c.step L S⟩)
    refine Vd (dq _ _ _ (by rw[W,cl]) c0) (hk g _ _ (a2.1.put o.dst hd (.inl rfl)) a2.2)
   ·simp at D
  ·simp at D
 ·rename_i k aM i off cc;rw[cc] at ex;obtain⟨_,dz,W,X⟩:=ex.ju (by simp[aG.key,aG.cf]);split at D
  ·rename_i s' e sz es new J l;split at D
   ·rename_i cs a5;split at D
    ·rename_i hc;obtain⟨rfl,Z,ee,C⟩:=hc;cases D;have a1:=h.ig k;rw[J] at a1;obtain⟨ar6,r1,em,N,a3,c4,py,fn,hh⟩:=a1;have cl:=X e sz es true J;have hi:=c4 i cs a5;have ge:i<es.length:=(e6.1 a5).1;simp only[vC] at l;obtain⟨hl,c5,l⟩:=l;obtain⟨rfl,go⟩:=ev.afy C c5;have gt:dT g w (λ_=>Obj.ax 0) (c9 s.aC v) (a.eval v):= .inr (.inl (.inl go));obtain⟨H,ar⟩:=gt.cells l;have ha:∀(j:Nat) (q:aG),new[j]? =some q->∃u,(a.eval v).cells.toList[j]? =some u/\q.hK=true/\eZ g.U w q u:=by
      intro j q F;obtain⟨u,r,z,c⟩:=ar j q F;refine⟨u,r,z,?_⟩;rcases c with c|c
      ·exact c
      ·exfalso;have M:q∈new:=On F;have:q.key=[]:=by
        cases G:c9 s.aC v with
        |agg asq=>rw[G] at C l;simp only[aG.cR,aG.eg,n7] at C;simp only[aG.cells,O5] at l;subst l;exact C q M
        |bu _=>rw[G] at C l;simp only[aG.cells,O5] at l;subst l;simp at M;subst M;exact C
        |aQ _ _=>rw[G] at C l;simp only[aG.cells,O5] at l;subst l;simp at M;subst M;exact C
        |ep _ _=>rw[G] at C l;simp only[aG.cells,O5] at l;subst l;simp at M;subst M;exact C
        |undef=>rw[G] at l;simp[aG.cells] at l
        |a0 _=>rw[G] at l;simp[aG.cells] at l
        |hG _ _=>rw[G] at C;simp[aG.cR,aG.eg,aG.key,aG.cf] at C
        |gJ _ _=>rw[G] at c5;simp[qG,gV] at c5
        |bn _ _ _=>rw[G] at C;simp[aG.cR,aG.eg,aG.key,aG.cf] at C
        |az _ _ _ _=>rw[G] at C;simp[aG.cR,aG.eg,aG.key,aG.cf] at C
        |dH _ _ _ _=>rw[G] at C;simp[aG.cR,aG.eg,aG.key,aG.cf] at C
       exact c.s9 this
     have bd:g.U (g.b3 k)=0:=fn rfl;have cn:∀u∈(a.eval v).cells.toList,u.oneCell'=true:=by
      intro u cp;obtain⟨j,A⟩:=vg.1 cp;have R:j<new.length:=by have:=(e6.1 A).1;omega
      obtain⟨u',r,z,c⟩:=ar j new[j] (dC R);rw[A] at r;cases r;exact c.pI z
     have hb:(i+1)*sz<=es.length*sz:=dr sz ge;rw[xB,yy] at hb;have hm:es.length*sz<=g.cap k*sz:=dr sz N;have c0:=aa9 (P:=P) (w:=w) ht (g.b3 k) (i*sz+off) e ar6 (a.eval v) r1 (by simpa[Z] using H) (by omega) cn;have c3:(s.bo k).fx:=by rw[J];trivial
     let E:Array Value:=(ar6.toList.take (i*sz+off)++(a.eval v).cells.toList++ar6.toList.drop (i*sz+off+m)).toArray;have S:=fY.az g (asH:=es.set i (mO cs off new)) (as2:=true) J (by simp);have L:=gk.wz g w (g.b3 k) E bd;have he:(mO cs off new).length=sz:=by simp[mO];omega
     have dt:∀j,E[j]? =if j<i*sz+off then ar6[j]? else if j<i*sz+off+m then(a.eval v).cells.toList[j-(i*sz+off)]? else ar6[j]? :=by intro j;have a4:=xc ar6.toList (a.eval v).cells.toList (i*sz+off) j (by rw[H];simp;omega);rw[H,Z] at a4;simp only[E,Bk,a4,xE]
     have a2:=h.wz k (.az aM e sz (es.set i (mO cs off new)) true) E c3 bd S (by
      refine⟨E,D4 w (g.b3 k) ar6 E e (0,0) r1,?_,by simpa using N,a3,λi' asq I=>?_,λi' j asq q I A=>?_,λ_=>bd,by rw[bd];omega⟩
      ·simp[E];simp at H;omega
      ·rw[oG] at I;split at I
       ·cases I;exact he
       ·exact c4 i' asq I
      ·rw[oG] at I;split at I
       ·rename_i dd;subst dd
        ·cases I;have R:j<sz:=by have:=(e6.1 A).1;omega
         simp only[mO] at A;rw[xc cs new off j (by omega)] at A;rw[dt];by_cases c1:j<off
         ·rw[y1 c1] at A;rw[fS];obtain⟨u,r,z,c⟩:=py i j cs q a5 A;exact⟨u,r,z,c.mono L⟩
         ·rw[Ca c1] at A;rw[cz];by_cases c2:j<off+new.length
          ·rw[y1 c2] at A;rw[fS];obtain⟨u,r,z,c⟩:=ha (j-off) q A;exact⟨u,by rw[show i*sz+j-(i*sz+off)=j-off by omega];exact r,z,c.mono L⟩
          ·rw[Ca c2] at A;rw[cz];obtain⟨u,r,z,c⟩:=py i j cs q a5 A;exact⟨u,r,z,c.mono L⟩
       ·rename_i dd;have R:j<sz:=by have:=(e6.1 A).1;have:=c4 i' asq I;omega
        have hn:=Vm (i:=i) (i':=i') (sz:=sz) (j:=j) (off:=off) (m:=m) R (by omega) (λx=>dd x.symm);rw[dt];obtain⟨u,r,z,c⟩:=py i' j asq q I A;refine⟨u,?_,z,c.mono L⟩;by_cases c1:i'*sz+j<i*sz+off
        ·rw[y1 c1];exact r
        ·rw[Ca c1,cz];exact r)
     refine Vd (dq _ _ _ (by rw[W,cl]) c0) (hk g _ _ (a2.1.put o.dst hd (.inl rfl)) a2.2)
    ·simp at D
   ·simp at D
  ·simp at D
 ·simp at D
end
end
section
variable{R:aG->Value->Prop}
def oU(ar6:Array Value)(off:Nat):List Value->Array Value
 |[]=>ar6
 |v::vs=>oU (ar6.setIfInBounds off v) (off+1) vs
theorem ad8(off:Nat):∀(vs:List Value) (m:Nat) (ar6:Array Value),(vs.zipIdx m).foldl (λ(cs:Array Value) (x:Value×Nat)=>cs.setIfInBounds (off+x.2) x.1) ar6=oU ar6 (off+m) vs
 |[],_,_=>rfl
 |v::vs,m,ar6=>by simp only[List.zipIdx_cons,List.foldl_cons,oU];exact ad8 off vs (m+1) _
theorem J4:∀(vs:List Value) (off:Nat) (ar6:Array Value),(oU ar6 off vs).size=ar6.size
 |[],_,_=>rfl
 |v::vs,off,ar6=>by simp only[oU];rw[J4 vs];simp
theorem N6:∀(vs:List Value) (off:Nat) (ar6:Array Value) (k:Nat),off+vs.length<=ar6.size->
 (oU ar6 off vs)[k]? =if k<off then ar6[k]? else if k<off+vs.length then vs[k-off]? else ar6[k]?
 |[],off,ar6,k,_=>by simp[oU];omega
 |v::vs,off,ar6,k,h=>by
  simp only[oU];rw[N6 vs (off+1) _ k (by simp at h ⊢;omega)];simp only[JO] at h ⊢;rw[OB];by_cases b:k<off
  ·rw[fS,cz,y1 b]
  ·by_cases d:k=off
   ·subst d;rw[fS,y1 rfl,fS,Ca b,fS];simp
   ·rw[Ca (by omega:¬k<off+1),Ca (by omega:¬off=k),Ca b];by_cases c:k<off+1+vs.length
    ·rw[y1 c,fS];rw[show k-off=(k-(off+1))+1 by omega,zd]
    ·rw[Ca c,cz]
section
variable{P:Program} {n B bs:Nat} {O:Nat->Prop} {gl:eI} {ph:ck×cD×World×List Deferred} {g:ck} {s:df} {a:Act} {w w':World} {o:Oper} {K:Act->World->Prop} {Q:Exit->Act->World->Prop}
def rY(R:aG->Value->Prop)(cs:dA)(ar6:Array Value):Prop:=
 ar6.size=cs.length/\∀(j:Nat) (q:aG),cs[j]? =some q->∃u,ar6[j]? =some u/\q.hK=true/\R q u
theorem rY.zero(e:∀v,iO v=true->R (.bu v) v){zero:List Value}(h:zero.all iO=true):rY R (zero.map aG.bu) zero.toArray:=by refine⟨by simp,λj q b=>?_⟩;simp only[O8,Pq] at b;obtain⟨v,c,rfl⟩:=b;have d:iO v=true:=M2.1 h v (On c);exact⟨v,by simpa using c,d,e v d⟩
theorem rY.put{cs new:dA}{ar6:Array Value}{vs:List Value}{off:Nat}(h:rY R cs ar6)(c:vs.length=new.length)(d:off+new.length<=cs.length)
 (i:∀(j:Nat) (q:aG),new[j]? =some q->∃u,vs[j]? =some u/\q.hK=true/\R q u):rY R (mO cs off new) (oU ar6 off vs):=by
 refine⟨by rw[J4,h.1];simp[mO];omega,λj q b=>?_⟩;simp only[mO] at b;rw[xc cs new off j d] at b;rw[N6 vs off ar6 j (by rw[h.1,c];exact d),c];by_cases c1:j<off
 ·rw[y1 c1] at b ⊢;exact h.2 j q b
 ·rw[Ca c1] at b ⊢;by_cases e:j<off+new.length
  ·rw[y1 e] at b ⊢;exact i _ q b
  ·rw[Ca e] at b ⊢;exact h.2 j q b
theorem W2(b:Nat->Option (Nat×Nat))(ar6:Array Value)(i off m:Nat)(v:Value)(c:List (Nat×Value))(d:b i=some (off,m))(e:v.cells.size=m)(k:off+m<=ar6.size):
 Instr.fill b ar6 ((i,v)::c)=Instr.fill b (oU ar6 off v.cells.toList) c:=by
 simp only[Instr.fill,d,e];have h:v.cells.zipIdx.foldl (λ(cs:Array Value) (x:Value×Nat)=>cs.setIfInBounds (off+x.2) x.1) ar6=oU ar6 off v.cells.toList:=by have:=ad8 off v.cells.toList 0 ar6;simp only[gU] at this;rw[<-this,<-Array.foldl_toList,Array.toList_zipIdx]
 have j:¬(off+m>ar6.size):=by omega
 simp only[ne_eq,not_true_eq_false,decide_false,qq,j,Nn,st];rw[<-h]
theorem ct.fill(h:ct gl ph n B O g s a w)(d:Nat->Option (Nat×Nat)):∀(parts:List (Nat×Operand)) (k:List (Nat×Nat×Operand)) (cs asq:dA) (ar6:Array Value),
 Cz d parts k->pg (c9 s.aC) cs k=some asq->rY (gf g w s.bo) cs ar6->
 ∃e,Instr.fill d ar6 (parts.map λp=>(p.1,a.eval p.2))=some e/\rY (gf g w s.bo) asq e
 |[],[],cs,asq,ar6,_,b,j=>by simp only[pg,O5] at b;subst b;exact⟨ar6,rfl,j⟩
 |[],_::_,_,_,_,c,_,_=>c.elim
 |(_,_)::_,[],_,_,_,c,_,_=>c.elim
 |(i,x)::r,(off,m,y)::q,cs,asq,ar6,c,b,j=>by
  obtain⟨t,rfl,u,z⟩:=c;simp only[pg] at b;split at b
  ·rename_i new A;split at b
   ·rename_i C;obtain⟨D,E⟩:=C;obtain⟨l,F⟩:=(h.fF u).cells A;have G:=j.put (vs:=(a.eval x).cells.toList) (off:=off) l (by omega) F;obtain⟨e,H,I⟩:=ct.fill h d r q _ asq _ z b G;refine⟨e,?_,I⟩;simp only[mG];rw[W2 d ar6 i off m (a.eval x) _ t (by simpa[D] using l) (by rw[j.1];exact E)];exact H
   ·simp at b
  ·simp at b
theorem WY{α b:Type}(f:α->Sem b)(r:α->b):∀l:List α,(∀x∈l,(f x).run P w= .ok (r x) w)->(l.mapM f).run P w= .ok (l.map r) w
 |[],_=>by simp
 |x::xs,h=>by simp only[List.mapM_cons,q6,h x (by simp),MT,WY f r xs (λy c=>h y (by simp[c])),wd,mG]
theorem aAC{α b:Type}(f:α->Sem b)(r:α->b)(l:Array α)(h:∀x∈l.toList,(f x).run P w= .ok (r x) w):(l.mapM f).run P w= .ok (l.map r) w:=by
 have c:=WY (P:=P) (w:=w) f r l.toList h;rw[Array.mapM_eq_mapM_toList];have d:(Functor.map List.toArray (l.toList.mapM f):Sem (Array b)).run P w=((l.toList.mapM f).run P w).andThen λx w'=> .ok x.toArray w':=by rw[map_eq_pure_bind,q6];rfl
 rw[d,c];simp only[MT,Result.ok.injEq,and_true];apply ik;simp
theorem aBa{zero:List Value}{r:List (Nat×Nat×Operand)}{p:aG}{us:iP}(h:ct gl ph n B O g s a w)(hd:∀t,o.dst=some t->t<n)(N:gA P o (.build zero r))
 (D:b6 (c9 s.aC) s.bo (bs+o.dst.getD 0) (.build zero r)=some (p,us))(E:gL gl ph n B O g w ⟨put s.aC o.dst p,c7 s.bo us⟩ K):o.wp P a w K Q:=by
 obtain⟨t,parts,sz,F,⟨i,z,hi,G,S,_,_,T⟩,W⟩:=N;simp only[b6,Pq,pV] at D;obtain⟨cs,H,rfl,rfl⟩:=D;have I:rY (gf g w s.bo) (zero.map aG.bu) z.cells:=by have:=rY.zero (R:=gf g w s.bo) (λv X=> .inl (.bu X)) T;rw[<-S] at this ⊢;simpa using this
 have J:∀ar6:Array Value,rY (gf g w s.bo) cs ar6->dT g w s.bo (.agg cs) (.agg ar6):=by
  intro ar6 c;have e:Value.agg ar6=Value.agg ar6.toList.toArray:=by simp
  rw[e];refine .inr (.inr (.inl ⟨cs,ar6.toList,rfl,rfl,by simp[c.1],λj q u Z b=>?_⟩));obtain⟨u',h1,h2,h3⟩:=c.2 j q Z;have:u'=u:=by rw[xE] at b;rw[h1] at b;exact jZ b
  subst this;exact⟨h2,h3⟩
 have L:(parts.map λ(x:Nat×Operand)=>(x.1,a.eval x.2)).toList=parts.toList.map λp=>(p.1,a.eval p.2):=by simp
 rcases W with⟨d,b,M,A⟩|⟨m,e,bd,b,ar,A⟩
 ·obtain⟨l,C,c⟩:=h.fill _ parts.toList r _ cs _ A H I;refine gj h hd (v:= .agg l) ?_ (J l c) E;have hm:(d.mapM λf=>(do pure (f.offset,<-sizeOf f.type):Sem (Nat×Nat))).run P w= .ok (d.map λf=>(f.offset,((P.info? f.type).map (·.size)).getD 0)) w:=by refine aAC _ _ d (λf a1=>?_);obtain⟨k,a2⟩:=vg.1 a1;obtain⟨a3,y⟩:=Option.isSome_iff_exists.1 (M k f (by simpa using a2));simp only[q6,run_sizeOf y,MT,wd,y,NL,Option.getD_some]
  have a4:(λk:Nat=>(d.map λ(f:Field)=>(f.offset,((P.info? f.type).map (·.size)).getD 0))[k]?)= λk=>(d[k]?).bind λ(f:Field)=>(P.info? f.type).map λi=>(f.offset,i.size):=by
   funext k;simp only[Array.getElem?_map];cases a5:d[k]? with
   |none=>rfl
   |some f=>obtain⟨a3,y⟩:=Option.isSome_iff_exists.1 (M k f a5);simp[y]
  simp only[execOp,F,Instr.build,q6,CE hi G,MT,ux b,hm,L];simp only[a4,C,wd,MT]
 ·obtain⟨l,C,c⟩:=h.fill _ parts.toList r _ cs _ A H I;refine gj h hd (v:= .agg l) ?_ (J l c) E;simp only[execOp,F,Instr.build,q6,CE hi G,MT,ux b,run_sizeOf ar,L,C,wd]
end
end
section
variable{sz:Nat} {p:aG} {es:kO}
section
variable{P:Program} {n B bs:Nat} {O:Nat->Prop} {gl:eI} {ph:ck×cD×World×List Deferred} {g:ck} {s:df} {a:Act} {w w':World} {o:Oper} {K:Act->World->Prop} {Q:Exit->Act->World->Prop}
def mF(R:aG->Value->Prop)(sz:Nat)(es:kO)(ar6:Array Value):Prop:=
 (∀(i:Nat) (cs:dA),es[i]? =some cs->cs.length=sz)/\
 ∀(i j:Nat) (cs:dA) (p:aG),es[i]? =some cs->cs[j]? =some p->∃u,ar6[i*sz+j]? =some u/\p.hK=true/\R p u
theorem ct.asE(h:ct gl ph n B O g s a w)(d b e sz:Nat)(es:kO)(as0:Bool)(ar6:Array Value)(c:w'.heap=w.heap.push (.cells ar6 e (0,0)))(l:ar6.size=b*sz)(q:es.length<=b)(r:b<=maxLen)
 (k:mF (eZ g.U w) sz es ar6):ct gl ph n B O (g.new w d b) ⟨s.aC,dl s.bo d (.az ((s.bo d).cd+1) e sz es as0)⟩ a w':=by
 refine h.new d b (.az ((s.bo d).cd+1) e sz es as0) (Nat.lt_succ_self _) c ⟨ar6,?_,?_,?_,?_,k.1,λi j cs p hi t=>?_,λ_=>?_,?_⟩
 ·simp only[ck.new,iM];exact Uf c
 ·simp only[ck.new,iM];exact l
 ·simp only[ck.new,iM];exact q
 ·simp only[ck.new,iM];exact r
 ·obtain⟨u,x,y,z⟩:=k.2 i j cs p hi t;exact⟨u,x,y,z.mono (gk.push g c)⟩
 ·simp[ck.new,dl]
 ·simp[ck.new,dl]
theorem u2(h:ct gl ph n B O g s a w)(hd:∀t,o.dst=some t->t<n)(k b e sz:Nat)(es:kO)(as0:Bool)(ar6:Array Value)
 (l:(execOp a.eval o).run P w= .ok (.value (.slice (some ⟨w.heap.size,0,none⟩) es.length b)) w')(c:w'.heap=w.heap.push (.cells ar6 e (0,0)))(q:w'.os=w.os)(r:w'.tape=w.tape)(u:w'.output=w.output)
 (x:ar6.size=b*sz)(d:es.length<=b)(i:b<=maxLen)(y:mF (eZ g.U w) sz es ar6)
 (z:gL gl ph n B O g w ⟨put s.aC o.dst (.az k ((s.bo k).cd+1) 0 es.length),dl s.bo k (.az ((s.bo k).cd+1) e sz es as0)⟩ K):o.wp P a w K Q:=by
 have A:=h.asE k b e sz es as0 ar6 c x d i y;refine wK l (z _ _ _ (A.put o.dst hd (.inr (.inl (.inr ⟨by simp[dl,Obj.cd],_,_,_,rfl,d,i,λC D asH as2 E=>?_⟩)))) (gn.push h c q r u));have j:dl s.bo k (.az ((s.bo k).cd+1) e sz es as0) k= .az ((s.bo k).cd+1) C D asH as2:=E;rw[iM] at j;cases j;simp[ck.new,dl]
theorem agM(z:Array Value)(m k:Nat)(b:k<m):(madeCells z m)[k]? =some (z[k%z.size]!):=by simp[madeCells,b]
theorem aqQ{e bytes:Nat}{zero:List Value}{l c:Operand}{us:iP}(h:ct gl ph n B O g s a w)(hd:∀t,o.dst=some t->t<n)(I:gA P o (.oJ e sz bytes zero l c))
 (b:b6 (c9 s.aC) s.bo (bs+o.dst.getD 0) (.oJ e sz bytes zero l c)=some (p,us))(J:gL gl ph n B O g w ⟨put s.aC o.dst p,c7 s.bo us⟩ K):o.wp P a w K Q:=by
 obtain⟨t,i',L,_,M,⟨i,z,hi,N,u,A,C,R⟩,D,S,cc,T,W⟩:=I;have X:i'=i:=by rw[hi] at D;exact(jZ D).symm
 subst X;have el:=h.fF T;have E:=h.fF W;simp only[b6] at b;split at b
 ·rename_i x y Z ar;rw[Z] at el;rw[ar] at E;split at b
  ·rename_i a1;obtain⟨a2,h1,h2,h3⟩:=a1;cases b;have a3:=run_make (P:=P) w t e i' z M hi N .i64 .i64 x y a2 h1 (by rw[S,Int.mul_comm];omega) (by omega);have a4:z.cells.size=sz:=by rw[<-C,<-u];simp
   have a5:(List.replicate x.toNat (zero.map aG.bu)).length=x.toNat:=by simp
   refine u2 h hd (bs+o.dst.getD 0) y.toNat e sz (List.replicate x.toNat (zero.map aG.bu)) true (madeCells z.cells (y.toNat*i'.size)) (w':=w.alloc (.cells (madeCells z.cells (y.toNat*i'.size)) e)) ?_ rfl rfl rfl rfl
    (by rw[size_madeCells,A]) (by simp;omega) (by simp only[maxLen];omega) ⟨λk cs d=>?_,λk j cs q d F=>?_⟩ ?_
   ·rw[a5];simp only[execOp,L,el.fB.1,E.fB.1,q6,a3,MT,wd]
   ·have:=On d;simp at this;rw[this.2];simpa using C
   ·have G:=On d;simp at G;obtain⟨_,rfl⟩:=G;have cl:k<x.toNat:=by have:=(e6.1 d).1;simpa using this
    simp only[O8,Pq] at F;obtain⟨v,r,rfl⟩:=F;have bd:j<sz:=by have:=(e6.1 r).1;omega
    have H:iO v=true:=M2.1 R v (On r);have bx:k*sz+j<y.toNat*i'.size:=by rw[A];have:=dr sz (show k+1<=y.toNat by omega);rw[xB,yy] at this;omega
    refine⟨v,?_,H,.bu H⟩;rw[agM _ _ _ bx,a4,gp,ny,vw bd];have:z.cells[j]? =some v:=by rw[<-u] at r;simpa using r
    simp[getElem!_def,this]
   ·simpa[c7] using J
  ·simp at b
 ·simp at b
theorem ct.Uj(h:ct gl ph n B O g s a w){v:Value}(e:dT g w s.bo p v)(c:iZ s.bo sz p=some es):
 (v= .slice none 0 0/\es=[])\/∃b o' l,v= .slice (some ⟨b,o',none⟩) es.length l/\(∀(i:Nat) (cs:dA),es[i]? =some cs->cs.length=sz)/\
  ∀(i j:Nat) (cs:dA) (q:aG),es[i]? =some cs->cs[j]? =some q->∃u,w.cell? ⟨b,o'+(i*sz+j),none⟩=some u/\q.hK=true/\eZ g.U w q u:=by
 unfold iZ at c;split at c
 ·cases c;exact .inl ⟨e.fB.1,rfl⟩
 ·split at c
  ·rename_i z;subst z;cases c;cases e.u3 with
   |aQ R S T W t A C D E=>exact .inr ⟨_,_,_,rfl,A,λi j cs q hi d=>⟨_,C i j cs q hi d,D i j cs q hi d,E i j cs q hi d⟩⟩
  ·simp at c
 ·rename_i k aM off len;split at c
  ·rename_i X Z ar asH as0 x;split at c
   ·rename_i t;obtain⟨rfl,rfl,a1⟩:=t;cases c;obtain⟨_,b,o',l,rfl,h1,h2,F⟩:=e.ju (by simp[aG.key,aG.cf]);obtain⟨f1,f2,f3,f4⟩:=F _ _ _ _ x;have y:=h.ig k;rw[x] at y;obtain⟨ar6,r1,a2,a3,a4,G,py,a5,bd⟩:=y;have H:((asH.drop off).take len).length=len:=by simp;omega
    have r:∀(i:Nat) (cs:dA),((asH.drop off).take len)[i]? =some cs->asH[off+i]? =some cs/\i<len:=by
     intro i cs hi;rw[eS] at hi;split at hi
     ·rename_i I;rw[lh] at hi;exact⟨hi,I⟩
     ·cases hi
    refine .inr ⟨b,o',l,by rw[H],λi cs hi=>G _ _ (r i cs hi).1,λi j cs q hi d=>?_⟩;obtain⟨u,J,L,M⟩:=py (off+i) j cs q (r i cs hi).1 d;have bx:=(r i cs hi).2;have N:=f3 (.inl (by omega));refine⟨u,?_,L,M⟩;rw[f2,N,cell_of_heap r1,<-J];congr 1;rw[xB];omega
   ·simp at c
  ·simp at c
 ·simp at c
theorem anm{i j:Nat}(h:j<sz):(i*sz+j)/sz=i/\(i*sz+j) %sz=j:=by
 have b:0<sz:=by omega
 constructor
 ·rw[gp,ly b,uE h];rfl
 ·rw[gp,ny,vw h]
theorem abM{b o':Nat}{R:aG->Value->Prop}(r:∀(i:Nat) (cs:dA),es[i]? =some cs->cs.length=sz)
 (t:∀(i j:Nat) (cs:dA) (q:aG),es[i]? =some cs->cs[j]? =some q->∃u,w.cell? ⟨b,o'+(i*sz+j),none⟩=some u/\q.hK=true/\R q u):
 ∃asQ:List Value,asQ.length=es.length*sz/\(∀(j:Nat) (u:Value),asQ[j]? =some u->w.cell? ⟨b,o'+j,none⟩=some u)/\
  ∀(i j:Nat) (cs:dA) (q:aG),es[i]? =some cs->cs[j]? =some q->∃u,asQ[i*sz+j]? =some u/\q.hK=true/\R q u:=by
 have A:∀k,k<es.length*sz->∃u,w.cell? ⟨b,o'+k,none⟩=some u:=by
  intro k c
  have x:0<sz:=by rcases P1 sz with h|h;·subst h;simp at c
                  ·exact h
  have hi:k/sz<es.length:=by rw[Nat.div_lt_iff_lt_mul x];exact c
  have l:k%sz<sz:=Fq _ x;have y:=dC hi;have F:=r _ _ y;obtain⟨u,d,_⟩:=t (k/sz) (k%sz) _ _ y (dC (by omega));exact⟨u,by rw[<-d];congr 2;rw[gp,Nat.div_add_mod]⟩
 refine⟨(List.range (es.length*sz)).map λk=>(w.cell? ⟨b,o'+k,none⟩).getD undef,by simp,λj u z=>?_,λi j cs q hi l=>?_⟩
 ·simp only[O8,Pq] at z;obtain⟨k,c,rfl⟩:=z;have e:j<es.length*sz:=by have:=(e6.1 c).1;simpa using this
  have:k=j:=by rw[F6 e] at c;exact(jZ c).symm
  subst this;obtain⟨u,d⟩:=A k e;simp[d]
 ·obtain⟨u,d,C,D⟩:=t i j cs q hi l;have E:i<es.length:=(e6.1 hi).1;have G:j<sz:=by have:=(e6.1 l).1;have:=r i cs hi;omega
  have e:i*sz+j<es.length*sz:=by have:=dr sz (show i+1<=es.length from E);rw[xB,yy] at this;omega
  refine⟨u,?_,C,D⟩;simp[F6 e,d]
end
end
section
variable{ob:cD} {sz:Nat} {es:kO}
section
variable{P:Program} {n B bs:Nat} {O:Nat->Prop} {gl:eI} {ph:ck×cD×World×List Deferred} {g:ck} {s:df} {a:Act} {w w':World} {o:Oper} {K:Act->World->Prop} {Q:Exit->Act->World->Prop}
theorem ct.adB(h:ct gl ph n B O g s a w)(k:Nat)(x:Obj)(ar6:Array Value)(d:(s.bo k).fx)(u:gk g.U w g.U (w.setRow (g.b3 k) ar6))
 (y:fY g s.bo g (dl s.bo k x))(z:kR g (w.setRow (g.b3 k) ar6) (dl s.bo k x) k x):
 ct gl ph n B O g ⟨s.aC,dl s.bo k x⟩ a (w.setRow (g.b3 k) ar6)/\gn B O g.U w g.U (w.setRow (g.b3 k) ar6):=by
 obtain⟨A,C,D,a4⟩:=D0 w (g.b3 k) ar6;have j:∀b,b≠g.b3 k->(w.setRow (g.b3 k) ar6).heap[b]? =w.heap[b]? :=λb l=>pU w (g.b3 k) b ar6 (λe=>l (by simpa using e));refine⟨h.zp (dl s.bo k x) (· =k) u y (λc E=>ir _ _ E) (λc i p=>?_) (λc i p=>?_),⟨A,C,D,by omega,λb l F=>j b ?_,λ_ _ _=>rfl⟩⟩
 ·exact⟨rfl,rfl,rfl,j _ (λe=>i (h.inj c k p d e))⟩
 ·subst i;refine⟨by rw[iM];exact z,(h.jI c d).1,by rw[a4];exact(h.jI c d).2,λG q r=>?_⟩;rw[ir _ _ q] at r;exactλe=>q (h.inj G c r d e)
 ·intro e;subst e;rcases(h.jI k d).1 with t|t
  ·omega
  ·exact F t
theorem fY.Rv(g:ck)(k:Nat)(x:Obj)(c:x.cd=(ob k).cd+1):fY g ob g (dl ob k x):=by
 intro h;by_cases d:h=k
 ·subst d;rw[iM];refine⟨by omega,λcs b=>?_,λe sz es as0 b=>?_,λes b=>?_⟩
  ·rw[b] at c;simp[Obj.cd] at c
  ·rw[b] at c;simp[Obj.cd] at c
  ·rw[b] at c;simp[Obj.cd] at c
 ·rw[ir _ _ d];exact⟨sm _,λcs b=>⟨⟨cs,b⟩,rfl⟩,λ_ _ es as0 b=>⟨⟨es,as0,b,sm _⟩,rfl,rfl⟩,λes b=>⟨⟨es,b⟩,rfl⟩⟩
theorem mF.append{R:aG->Value->Prop}{len:Nat}{ys:kO}{xs asQ:List Value}{tl:List Value}(l:∀(i:Nat) (cs:dA),es[i]? =some cs->cs.length=sz)(z:len<=es.length)(q:xs.length=len*sz)
 (r:∀(i j:Nat) (cs:dA) (p:aG),i<len->es[i]? =some cs->cs[j]? =some p->∃u,xs[i*sz+j]? =some u/\p.hK=true/\R p u)
 (t:∀(i:Nat) (cs:dA),ys[i]? =some cs->cs.length=sz)
 (x:∀(i j:Nat) (cs:dA) (p:aG),ys[i]? =some cs->cs[j]? =some p->∃u,asQ[i*sz+j]? =some u/\p.hK=true/\R p u):
 mF R sz (es.take len++ys) (xs++asQ++tl).toArray:=by
 have h:(es.take len).length=len:=by simp;omega
 refine⟨λi cs hi=>?_,λi j cs p hi k=>?_⟩
 ·rw[Ih] at hi;split at hi
  ·rw[eS] at hi;split at hi
   ·exact l i cs hi
   ·cases hi
  ·exact t _ cs hi
 ·rw[Ih] at hi;rw[Bk,dD];split at hi
  ·rename_i b;rw[h] at b;rw[eS,y1 b] at hi;obtain⟨u,c,d,e⟩:=r i j cs p b hi k;refine⟨u,?_,d,e⟩;rw[q5 ((e6.1 c).1)];exact c
  ·rename_i b;rw[h] at b hi;obtain⟨u,c,d,e⟩:=x (i-len) j cs p hi k;refine⟨u,?_,d,e⟩;have y:i*sz+j=len*sz+((i-len)*sz+j):=by rw[<-gm,<-xB];congr 2;omega
   rw[y,sH (by omega),q,Nat.add_sub_cancel_left,q5 ((e6.1 c).1)];exact c
theorem eZ.pI{c:Nat->Nat}{q:aG}{u:Value}(b:q.hK=true)(h:eZ c w q u):u.oneCell'=true:=
 gf.pI (g:=⟨c,λ_=>0,λ_=>0⟩) (ob:=λ_=> .ax 0) b (.inl h)
theorem ct.fL(h:ct gl ph n B O g s a w){x:Operand}(E:cJ x=true){sz:Nat}{ys:kO}(F:iZ s.bo sz (c9 s.aC x)=some ys):
 (a.eval x= .slice none 0 0/\ys=[])\/∃(r:Addr) (c:Nat) (asQ:List Value),a.eval x= .slice (some r) ys.length c/\asQ.length=ys.length*sz/\
  (∀(j:Nat) (u:Value),asQ[j]? =some u->w.cell? (r.add j)=some u)/\(∀u:Value,u∈asQ->u.oneCell'=true)/\(∀(i:Nat) (cs:dA),ys[i]? =some cs->cs.length=sz)/\
  ∀(i j:Nat) (cs:dA) (q:aG),ys[i]? =some cs->cs[j]? =some q->∃u,asQ[i*sz+j]? =some u/\q.hK=true/\eZ g.U w q u:=by
 rcases h.Uj (h.fF E) F with d|⟨b,o',c,d,e,G⟩
 ·exact .inl d
 ·obtain⟨asQ,H,I,t⟩:=abM (R:=eZ g.U w) e G;refine .inr ⟨⟨b,o',none⟩,c,asQ,d,H,λj u l=>by rw[add_lit];exact I j u l,λu l=>?_,e,t⟩;obtain⟨k,y⟩:=vg.1 l;have z:k<ys.length*sz:=by have:=(e6.1 y).1;omega
  have A:0<sz:=by rcases P1 sz with p|p
                  ·subst p;simp at z
                  ·exact p
  have hi:k/sz<ys.length:=by rw[Nat.div_lt_iff_lt_mul A];exact z
  have N:k%sz<sz:=Fq _ A;have C:=dC hi;have S:=e _ _ C;obtain⟨T,D,J,L⟩:=t (k/sz) (k%sz) _ _ C (dC (by omega));have M:k/sz*sz+k%sz=k:=by rw[gp,Nat.div_add_mod]
  rw[M,y] at D;cases D;exact L.pI J
theorem og(z:Array Value)(m:Nat):(Builtin.zeroCells z m).size=m*z.size:=size_zeroCells z m
theorem avB{g:ck}{w:World}{v:Value}(h:dT g w ob (.a0 [.undef,.aQ sz es]) v):
 ∃b:Addr,v= .slice (some b) es.length es.length/\eZ g.U w (.aQ sz es) v:=by
 rcases h with h|h|⟨cs,vs,h,_⟩|⟨j,vs,c,e,d,i⟩|⟨k,asH,b,c,e,d⟩
 ·cases h
 ·rcases h with h|h
  ·cases h
  ·cases h
 ·cases h
 ·cases c;cases vs with
  |nil=>cases d
  |cons u r=>
   rcases i 0 .undef u rfl rfl with h|⟨cs,_,h,_⟩
   ·rcases h with h|h
    ·cases h
    ·cases h
   ·cases h
 ·cases c;exact⟨b,e,d⟩
theorem aw2{e bytes:Nat}{sl x:Operand}{as0:Bool}{p:aG}{us:iP}(h:ct gl ph n B O g s a w)(hd:∀t,o.dst=some t->t<n)(hr:gA P o (.append e sz bytes sl x as0))
 (y:b6 (c9 s.aC) s.bo (bs+o.dst.getD 0) (.append e sz bytes sl x as0)=some (p,us))(hk:gL gl ph n B O g w ⟨put s.aC o.dst p,c7 s.bo us⟩ K):o.wp P a w K Q:=by
 obtain⟨t,i,ho,k0,H,hi,c5,⟨z,hz,dd⟩,G,k1,hh,hx⟩:=hr;have M:=h.fF hh;have N:∀(v:Value) (dq:World),(Builtin.append_ #[t,t] o.type #[a.eval sl,a.eval x]).run P w= .ok v dq->(execOp a.eval o).run P w= .ok (.value v) dq:=by intro v dq E;simp only[execOp,ho,resolve,invoke,builtin,q6,wd,MT,r6,mG,fq,E]
 have dt:∀(I a5:Nat),I<=1099511627776->I<=grownCap w I a5 e/\grownCap w I a5 e<=maxLen:=λI a5 hn=>
  ⟨grownCap_ge w I a5 e,G1 w I a5 e (by simp only[maxLen];omega)⟩
 simp only[b6] at y;split at y
 ·rename_i ys bd S;rw[bd] at M;have F:=M.fB.1;split at y
  ·rename_i bx;obtain⟨en,cc⟩:=bx;split at y
   ·rename_i J;cases y;have hm:ys=[]:=uw J;subst hm;refine gj h hd (v:= .slice none 0 0) (N _ _ ?_) (.bu rfl) hk;rcases h.fL hx S with⟨l,_⟩|⟨T,cl,asQ,l,_⟩
    ·rw[F,l];simp[Builtin.append_,ux H,sizeOf,typeInfo,hi,Builtin.lenOf,Builtin.firstCells]
    ·rw[F,l];simp[Builtin.append_,ux H,sizeOf,typeInfo,hi,Builtin.lenOf,Builtin.firstCells,loadCells,loadCellsFrom]
   ·rename_i J;cases y;rcases h.fL hx S with⟨_,l⟩|⟨T,cl,asQ,l,C,W,h4,X,Z⟩
    ·subst l;simp at J
    ·have D:=run_append_nil (P:=P) w t o.type e i z H hi hz T ys.length cl asQ (by rw[G];exact C) W (by omega) (by omega) (by rw[c5];omega);obtain⟨dB,cT⟩:=dt ys.length 0 cc;rw[<-F,<-l] at D;refine u2 h hd (bs+o.dst.getD 0) (grownCap w ys.length 0 e) e sz ys as0 _ (N _ _ D) rfl rfl rfl rfl ?_ dB cT ?_ (by simpa[c7] using hk)
     ·rw[kD,og,nm,C,dd,<-xB];congr 1;omega
     ·have:=mF.append (R:=eZ g.U w) (sz:=sz) (len:=0) (es:=[]) (ys:=ys) (xs:=[]) (asQ:=asQ) (tl:=(Builtin.zeroCells z.cells (grownCap w ys.length 0 e-ys.length)).toList) (by simp) (by simp) (by simp) (by simp) X Z;have e:(asQ.toArray++Builtin.zeroCells z.cells (grownCap w ys.length 0 e-ys.length))=(([]:List Value)++asQ++(Builtin.zeroCells z.cells (grownCap w ys.length 0 e-ys.length)).toList).toArray:=by apply ik;simp
      rw[e];exact this
  ·simp at y
 ·rename_i k aM len ys bd S;rw[bd] at M;obtain⟨k2,b,o',cl,F,dz,hw,hA⟩:=M.ju (by simp[aG.key,aG.cf]);split at y
  ·rename_i la A d es r c1;split at y
   ·rename_i bx;obtain⟨rfl,rfl,rfl,eq,en,cc⟩:=bx;cases y;obtain⟨f1,f2,f3,f4⟩:=hA _ _ _ _ c1;have hD:o'=0:=by rw[f3 (.inr rfl)];simp
    have is:cl=g.cap k:=f4 rfl;subst f2;subst hD;subst is;have ev:=h.ig k;rw[c1] at ev;obtain⟨ar6,r1,ee,le,i8,em,py,ex,jn⟩:=ev;have j0:(s.bo k).fx:=by rw[c1];trivial
    have fn:len<=es.length:=by rcases eq with hl|⟨_,hl⟩<;>omega
    have ge:(s.bo k).cd=aM:=by rw[c1];rfl
    let xs:List Value:=ar6.toList.take (len*d);have lf:len*d<=ar6.size:=by rw[ee];exact dr _ dz
    have c2:xs.length=len*d:=by simp[xs];omega
    have go:∀(i' j:Nat) (cs:dA) (q:aG),i'<len->es[i']? =some cs->cs[j]? =some q->∃u,xs[i'*d+j]? =some u/\q.hK=true/\eZ g.U w q u:=by
     intro i' j cs q j1 cn c3;obtain⟨u,L,cp,c0⟩:=py i' j cs q cn c3;refine⟨u,?_,cp,c0⟩;have ll:j<d:=by have:=(e6.1 c3).1;have:=em i' cs cn;omega
     have:=dr d (show i'+1<=len from j1);rw[xB,yy] at this;simp only[xs];rw[eS,fS];simpa using L
    have lo:g.U (g.b3 k)<=len*d:=by
     rcases eq with hl|⟨j2,_⟩
     ·rw[hl];exact jn
     ·rw[ex j2];omega
    have inplace:∀(asQ:List Value),asQ.length=ys.length*d->len+ys.length<=g.cap k->(∀(i:Nat) (cs:dA),ys[i]? =some cs->cs.length=d)->
     (∀(i j:Nat) (cs:dA) (q:aG),ys[i]? =some cs->cs[j]? =some q->∃u,asQ[i*d+j]? =some u/\q.hK=true/\eZ g.U w q u)->
     (execOp a.eval o).run P w= .ok (.value (.slice (some ⟨g.b3 k,0,none⟩) (len+ys.length) (g.cap k))) (w.setRow (g.b3 k) (ar6.toList.take (len*d)++asQ++ar6.toList.drop (len*d+asQ.length)).toArray)->o.wp P a w K Q:=by
     intro asQ C ar X Z D;have gt:gk g.U w g.U (w.setRow (g.b3 k) (ar6.toList.take (len*d)++asQ++ar6.toList.drop (len*d+asQ.length)).toArray):=by
      obtain⟨a1,a2,a3,a4⟩:=D0 w (g.b3 k) (ar6.toList.take (len*d)++asQ++ar6.toList.drop (len*d+asQ.length)).toArray;refine⟨by omega,λ_ _=>sm _,λb' i' hb cn=>?_⟩;by_cases ha:b'=g.b3 k
      ·subst ha;rw[cell_of_heap (D4 w (g.b3 k) ar6 _ A (0,0) r1),cell_of_heap r1,Bk,dD,q5 (by simp;omega),eS,fS];simp
      ·simp only[World.cell?,pU w (g.b3 k) b' _ (λe=>ha (by simpa using e))]
     have j3:=fY.Rv (ob:=s.bo) g k (.az (aM+1) A d (es.take len++ys) r) (by rw[ge];rfl);have lq:len*d+ys.length*d<=ar6.size:=by rw[ee,<-xB];exact dr _ ar
     have hc:=mF.append (R:=eZ g.U w) (tl:=ar6.toList.drop (len*d+asQ.length)) em fn c2 go X Z;have he:=h.adB k (.az (aM+1) A d (es.take len++ys) r) _ j0 gt j3 (by
      refine⟨_,D4 w (g.b3 k) ar6 _ A (0,0) r1,?_,?_,i8,hc.1,λi' j cs q cn c3=>?_,ex,?_⟩
      ·simp;rw[C];omega
      ·simp;omega
      ·obtain⟨u,L,cp,c0⟩:=hc.2 i' j cs q cn c3;exact⟨u,L,cp,c0.mono gt⟩
      ·have:(es.take len++ys).length=len+ys.length:=by simp;omega
       rw[this,xB];omega)
     refine wK D (hk g _ _ (he.1.put o.dst hd (.inr (.inl (.inr ⟨by simp[dl,Obj.cd],_,_,_,rfl,ar,hw,λj4 j5 j6 j7 j8=>?_⟩)))) he.2);have hf:dl s.bo k (.az (aM+1) A d (es.take len++ys) r) k= .az (aM+1) j4 j5 j6 j7:=j8;rw[iM] at hf;cases hf;refine⟨by simp;omega,rfl,by simp,λ_=>rfl⟩
    rcases h.fL hx S with⟨l,J⟩|⟨T,c,asQ,l,C,W,h4,X,Z⟩
    ·subst J;refine inplace [] (by simp) (by simpa using dz) (by simp) (by simp) (N _ _ ?_);rw[F,l];simp[Builtin.append_,ux H,sizeOf,typeInfo,hi,Builtin.lenOf,Builtin.firstCells,dz,storeCells];rw[setRow_self w (g.b3 k) ar6 A (0,0) r1]
    ·by_cases ar:len+ys.length<=g.cap k
     ·have D:=run_append_room (P:=P) w t o.type A i H hi (g.b3 k) len (g.cap k) ar6 r1 T ys.length c asQ (by rw[G];exact C) W h4 ar (by rw[G,C,ee,<-xB];exact dr _ ar);rw[G,<-F,<-l] at D;exact inplace asQ C ar X Z (N _ _ D)
     ·have D:=run_append_grow (P:=P) w t o.type A i z H hi hz ⟨g.b3 k,0,none⟩ len (g.cap k) xs (by rw[G];exact c2)
       (λj v E=>by
        rw[add_lit,Fa,cell_of_heap r1];simp only[xs] at E;rw[eS] at E;split at E
        ·simpa using E
        ·cases E) T ys.length c asQ (by rw[G];exact C) W (by omega) (by omega) (growslice_fits (by omega) (by rw[c5];omega))
      rw[<-F,<-l] at D;obtain⟨dB,cT⟩:=dt (len+ys.length) (g.cap k) cc;have c4:(es.take len++ys).length=len+ys.length:=by simp;omega
      have j9:gL gl ph n B O g w ⟨put s.aC o.dst (.az k ((s.bo k).cd+1) 0 (es.take len++ys).length),dl s.bo k (.az ((s.bo k).cd+1) A d (es.take len++ys) r)⟩ K:=by rw[ge,c4];simpa[c7] using hk
      refine u2 (w':=w.drew.alloc (.cells (xs.toArray++asQ.toArray++Builtin.zeroCells z.cells (grownCap w (len+ys.length) (g.cap k) A-(len+ys.length))) A)) h hd k (grownCap w (len+ys.length) (g.cap k) A) A d (es.take len++ys) r _ (by rw[c4];exact N _ _ D) rfl rfl rfl rfl ?_ (by omega) cT ?_ j9
      ·rw[kD,kD,og,nm,nm,c2,C,dd,<-xB,<-xB];congr 1;omega
      ·have:=mF.append (R:=eZ g.U w) (tl:=(Builtin.zeroCells z.cells (grownCap w (len+ys.length) (g.cap k) A-(len+ys.length))).toList) em fn c2 go X Z;have e:(xs.toArray++asQ.toArray++Builtin.zeroCells z.cells (grownCap w (len+ys.length) (g.cap k) A-(len+ys.length)))=(xs++asQ++(Builtin.zeroCells z.cells (grownCap w (len+ys.length) (g.cap k) A-(len+ys.length))).toList).toArray:=by apply ik;simp
       rw[e];exact this
   ·simp at y
  ·simp at y
 ·rename_i d es ys bd S;rw[bd] at M;obtain⟨T,F,E⟩:=avB M;split at y
  ·rename_i bx;obtain⟨rfl,kp,en,cc⟩:=bx;cases y;rcases h.Uj (p:= .aQ d es) (.inr (.inl (.inl E))) (es:=es) (sz:=d) (by simp[iZ]) with⟨l,_⟩|⟨b,o',cl,l,C,W⟩
   ·rw[F] at l;cases l
   ·rw[F] at l;cases l;obtain⟨xs,L,cp,c0⟩:=abM (R:=eZ g.U w) C W;rcases h.fL hx S with⟨_,J⟩|⟨kq,c,asQ,aS,cZ,gg,jf,rz,v2⟩
    ·subst J;simp at kp
    ·have D:=run_append_grow (P:=P) w t o.type e i z H hi hz ⟨b,o',none⟩ es.length es.length xs (by rw[G];exact L)
      (λj v E=>by rw[add_lit];exact cp j v E) kq ys.length c asQ (by rw[G];exact cZ) gg (by omega) (by omega) (growslice_fits (by omega) (by rw[c5];omega))
     rw[<-F,<-aS] at D;obtain⟨dB,cT⟩:=dt (es.length+ys.length) es.length cc;have c4:(es++ys).length=es.length+ys.length:=by simp
     refine u2 (w':=w.drew.alloc (.cells (xs.toArray++asQ.toArray++Builtin.zeroCells z.cells (grownCap w (es.length+ys.length) es.length e-(es.length+ys.length))) e)) h hd (bs+o.dst.getD 0) (grownCap w (es.length+ys.length) es.length e) e d (es++ys) as0 _ (by rw[c4];exact N _ _ D) rfl rfl rfl rfl ?_ (by omega) cT ?_ (by simpa[c7] using hk)
     ·rw[kD,kD,og,nm,nm,L,cZ,dd,<-xB,<-xB];congr 1;omega
     ·have:=mF.append (R:=eZ g.U w) (sz:=d) (len:=es.length) (es:=es) (ys:=ys) (xs:=xs) (asQ:=asQ) (tl:=(Builtin.zeroCells z.cells (grownCap w (es.length+ys.length) es.length e-(es.length+ys.length))).toList) C (sm _) L (λi j cs p _=>c0 i j cs p) rz v2;rw[nG] at this;have e:(xs.toArray++asQ.toArray++Builtin.zeroCells z.cells (grownCap w (es.length+ys.length) es.length e-(es.length+ys.length)))=(xs++asQ++(Builtin.zeroCells z.cells (grownCap w (es.length+ys.length) es.length e-(es.length+ys.length))).toList).toArray:=by apply ik;simp
      rw[e];exact this
  ·simp at y
 ·simp at y
end
end
section
variable{P:Program} {n B bs:Nat} {O:Nat->Prop} {gl:eI} {ph:ck×cD×World×List Deferred} {g:ck} {s:df} {a:Act} {w w':World} {o:Oper} {K:Act->World->Prop} {Q:Exit->Act->World->Prop}
theorem Db(b:ByteArray):(lc b).length=b.size:=by simp[lc]
theorem ZR{c:Nat->Nat}{w:World}(b:ByteArray):(∀(i:Nat) (cs:dA),(lc b)[i]? =some cs->cs.length=1)/\
 ∀(i j:Nat) (cs:dA) (q:aG),(lc b)[i]? =some cs->cs[j]? =some q->∃u,(Lib.strCells b)[i*1+j]? =some u/\q.hK=true/\eZ c w q u:=by
 have h:∀(i:Nat) (cs:dA),(lc b)[i]? =some cs->∃y,b.data.toList[i]? =some y/\cs=[.bu (.int .u8 y.toNat)]:=by intro i cs hi;simp only[lc,O8,Pq] at hi;obtain⟨y,d,k⟩:=hi;exact⟨y,d,k.symm⟩
 refine⟨λi cs hi=>?_,λi j cs q hi e=>?_⟩
 ·obtain⟨y,_,rfl⟩:=h i cs hi;rfl
 ·obtain⟨y,d,rfl⟩:=h i cs hi;cases j with
  |zero=>simp at e;subst e;refine⟨.int .u8 y.toNat,?_,rfl,.bu rfl⟩;rw[Et,gU,Lib.strCells,O8,d];rfl
  |succ j=>simp at e
theorem run_append_nil_string(w:World)(t u c e:TypeId)(i:TypeInfo)(z:Value)(d:P.underlying t=some (.slice e))(h:P.underlying u=some .string)(hi:P.info? e=some i)(j:i.zero=some z)
 (b:ByteArray)(k:0<b.size)(x:(b.size:Int)<=9223372036854775807)(y:b.size*i.bytes<=281474976710656):
 (Builtin.append_ #[t,u] c #[.slice none 0 0,.string b]).run P w=
  .ok (.slice (some ⟨w.heap.size,0,none⟩) b.size (grownCap w b.size 0 e)) (w.drew.alloc (.cells ((Lib.strCells b).toArray++Builtin.zeroCells z.cells (grownCap w b.size 0 e-b.size)) e)):=by
 have l:b.size≠0:=by omega
 have p:¬(9223372036854775807<(b.size:Int)):=by omega
 have q:¬(281474976710656<Builtin.nextslicecap b.size 0*i.bytes):=by rw[nextslicecap_zero k];omega
 have r:=Lib.run_firstCells_string (P:=P) w.drew i.size b;simp[Builtin.append_,ux d,ux h,sizeOf,typeInfo,zeroValue,hi,j,Builtin.lenOf,l,p,q,Question.forced,run_firstCells_none,r,newRow,grownCap]
theorem ai8{e bytes:Nat}{sl x:Operand}{as0:Bool}{p:aG}{us:iP}(h:ct gl ph n B O g s a w)(hd:∀t,o.dst=some t->t<n)(hr:gA P o (.mM e bytes sl x as0))
 (l:b6 (c9 s.aC) s.bo (bs+o.dst.getD 0) (.mM e bytes sl x as0)=some (p,us))(H:gL gl ph n B O g w ⟨put s.aC o.dst p,c7 s.bo us⟩ K):o.wp P a w K Q:=by
 obtain⟨t,I,i,z,ho,j9,J,L,hi,c3,hz,c4,c5,hh,hx⟩:=hr;have M:=h.fF hh;have N:∀(v:Value) (ar:World),(Builtin.append_ #[t,I] o.type #[a.eval sl,a.eval x]).run P w= .ok v ar->(execOp a.eval o).run P w= .ok (.value v) ar:=by intro v ar A;simp only[execOp,ho,resolve,invoke,builtin,q6,wd,MT,r6,mG,fq,A]
 have dd:∀(C D:Nat),C<=1099511627776->C<=grownCap w C D e/\grownCap w C D e<=maxLen:=λC D hn=>
  ⟨grownCap_ge w C D e,G1 w C D e (by simp only[maxLen];omega)⟩
 simp only[b6] at l;split at l
 ·rename_i b a5 bd;rw[a5] at M;have E:=h.fF hx;rw[bd] at E;have F:=M.fB.1;have dq:=E.fB.1;obtain⟨S,T⟩:=ZR (c:=g.U) (w:=w) b;split at l
  ·rename_i bx;obtain⟨hm,cc⟩:=bx;split at l
   ·rename_i cl;cases l;refine gj h hd (v:= .slice none 0 0) (N _ _ ?_) (.bu rfl) H;rw[F,dq];have hf:=Lib.run_firstCells_string (P:=P) w i.size b;simp[Builtin.append_,ux J,ux L,sizeOf,typeInfo,hi,Builtin.lenOf,cl,hf];rw[cl] at hf;simp[hf]
   ·rename_i cl;cases l;have y:=run_append_nil_string (P:=P) w t I o.type e i z J L hi hz b (by omega) (by omega) (by rw[c3];omega);obtain⟨dB,cT⟩:=dd b.size 0 cc;rw[<-F,<-dq] at y;refine u2 (w':=w.drew.alloc (.cells ((Lib.strCells b).toArray++Builtin.zeroCells z.cells (grownCap w b.size 0 e-b.size)) e)) h hd (bs+o.dst.getD 0) (grownCap w b.size 0 e) e 1 (lc b) as0 _ (by rw[Db];exact N _ _ y) rfl rfl rfl rfl ?_ (by rw[Db];exact dB) cT ?_ (by rw[Db];simpa[c7] using H)
    ·rw[kD,og,nm,Lib.strCells_length,c4];omega
    ·have:=mF.append (R:=eZ g.U w) (sz:=1) (len:=0) (es:=[]) (ys:=lc b) (xs:=[]) (asQ:=Lib.strCells b) (tl:=(Builtin.zeroCells z.cells (grownCap w b.size 0 e-b.size)).toList) (by simp) (by simp) (by simp) (by simp) S T;have e:((Lib.strCells b).toArray++Builtin.zeroCells z.cells (grownCap w b.size 0 e-b.size))=(([]:List Value)++Lib.strCells b++(Builtin.zeroCells z.cells (grownCap w b.size 0 e-b.size)).toList).toArray:=by apply ik;simp
     rw[e];exact this
  ·simp at l
 ·rename_i k aM len b a5 bd;rw[a5] at M;have E:=h.fF hx;rw[bd] at E;have dt:=E.fB.1;obtain⟨S,T⟩:=ZR (c:=g.U) (w:=w) b;have kp:=Db b;obtain⟨kq,k0,o',hw,F,hA,hD,h1⟩:=M.ju (by simp[aG.key,aG.cf]);split at l
  ·rename_i k1 d k2 es r W;split at l
   ·rename_i bx;obtain⟨rfl,rfl,rfl,dz,hm,cc⟩:=bx;cases l;obtain⟨f1,f2,f3,f4⟩:=h1 _ _ _ _ W;have h2:o'=0:=by first|(rw[f3 (.inr rfl)];done)|(rw[f3 (.inr rfl)];simp)
    have h3:hw=g.cap k:=f4 rfl;subst f2;subst h2;subst h3;have ee:=h.ig k;rw[W] at ee;obtain⟨ar6,r1,em,la,h4,cn,py,en,is⟩:=ee;have i8:(s.bo k).fx:=by rw[W];trivial
    have eq:len<=es.length:=by rcases dz with hl|⟨_,hl⟩<;>omega
    have ev:(s.bo k).cd=aM:=by rw[W];rfl
    let xs:List Value:=ar6.toList.take (len*1);have le:len*1<=ar6.size:=by rw[em];exact dr _ hA
    have X:xs.length=len*1:=by simp only[xs,jl,GW];omega
    have fn:∀(i' j:Nat) (cs:dA) (q:aG),i'<len->es[i']? =some cs->cs[j]? =some q->∃u,xs[i'*1+j]? =some u/\q.hK=true/\eZ g.U w q u:=by
     intro i' j cs q lf G Z;obtain⟨u,cp,c0,c1⟩:=py i' j cs q G Z;refine⟨u,?_,c0,c1⟩;have ll:j<1:=by have:=(e6.1 Z).1;have:=cn i' cs G;omega
     simp only[xs];rw[eS,fS];simpa using cp
    have lo:g.U (g.b3 k)<=len*1:=by
     rcases dz with hl|⟨jn,_⟩
     ·rw[hl];exact is
     ·rw[en jn];omega
    by_cases ge:len+b.size<=g.cap k
    ·have j0:len+b.size<=ar6.size:=by rw[em];omega
     have y:=Lib.run_append_room_string (P:=P) w t I o.type d i J L hi c5 (g.b3 k) len (g.cap k) ar6 r1 b ge j0;rw[<-F,<-dt] at y;have y:=N _ _ y;have lq:(Lib.strCells b).length=b.size:=Lib.strCells_length b;have go:gk g.U w g.U (w.setRow (g.b3 k) (ar6.toList.take len++Lib.strCells b++ar6.toList.drop (len+b.size)).toArray):=by
      obtain⟨a1,a2,a3,a4⟩:=D0 w (g.b3 k) (ar6.toList.take len++Lib.strCells b++ar6.toList.drop (len+b.size)).toArray;refine⟨by omega,λ_ _=>sm _,λb' i' hb G=>?_⟩;by_cases gt:b'=g.b3 k
      ·subst gt;rw[cell_of_heap (D4 w (g.b3 k) ar6 _ d (0,0) r1),cell_of_heap r1,Bk,dD,q5 (by simp;omega),eS,fS];simp
      ·simp only[World.cell?,pU w (g.b3 k) b' _ (λe=>gt (by simpa using e))]
     have j1:=fY.Rv (ob:=s.bo) g k (.az (aM+1) d 1 (es.take len++lc b) r) (by rw[ev];rfl);have c2:=mF.append (R:=eZ g.U w) (tl:=ar6.toList.drop (len+b.size)) cn eq X fn S T;have j2:xs=ar6.toList.take len:=by simp only[xs,Et]
     rw[j2] at c2;have ha:=h.adB k (.az (aM+1) d 1 (es.take len++lc b) r) _ i8 go j1 (by
      refine⟨_,D4 w (g.b3 k) ar6 _ d (0,0) r1,?_,?_,h4,c2.1,λi' j cs q G Z=>?_,en,?_⟩
      ·simp;omega
      ·simp;omega
      ·obtain⟨u,cp,c0,c1⟩:=c2.2 i' j cs q G Z;exact⟨u,cp,c0,c1.mono go⟩
      ·have:(es.take len++lc b).length=len+b.size:=by simp;omega
       rw[this];omega)
     refine wK y (H g _ _ (ha.1.put o.dst hd (.inr (.inl (.inr ⟨by simp[dl,Obj.cd],_,_,_,rfl,ge,hD,λj3 j4 j5 j6 j7=>?_⟩)))) ha.2);have hc:dl s.bo k (.az (aM+1) d 1 (es.take len++lc b) r) k= .az (aM+1) j3 j4 j5 j6:=j7;rw[iM] at hc;cases hc;refine⟨by simp;omega,rfl,by simp,λ_=>rfl⟩
    ·have y:=Lib.run_append_grow_string (P:=P) w t I o.type d i z J L hi hz ⟨g.b3 k,0,none⟩ len (g.cap k) xs (by rw[c5];exact X)
      (λj v A=>by
       rw[add_lit,Fa,cell_of_heap r1];simp only[xs] at A;rw[eS] at A;split at A
       ·simpa using A
       ·cases A) b (by omega) (by omega) (growslice_fits (by omega) (by rw[c3];omega))
     rw[<-F,<-dt] at y;obtain⟨dB,cT⟩:=dd (len+b.size) (g.cap k) cc;have he:(es.take len++lc b).length=len+b.size:=by simp;omega
     have j8:gL gl ph n B O g w ⟨put s.aC o.dst (.az k ((s.bo k).cd+1) 0 (es.take len++lc b).length),dl s.bo k (.az ((s.bo k).cd+1) d 1 (es.take len++lc b) r)⟩ K:=by rw[ev,he];simpa[c7] using H
     refine u2 (w':=w.drew.alloc (.cells (xs.toArray++(Lib.strCells b).toArray++Builtin.zeroCells z.cells (grownCap w (len+b.size) (g.cap k) d-(len+b.size))) d)) h hd k (grownCap w (len+b.size) (g.cap k) d) d 1 (es.take len++lc b) r _ (by rw[he];exact N _ _ y) rfl rfl rfl rfl ?_ (by omega) cT ?_ j8
     ·rw[kD,kD,og,nm,nm,X,Lib.strCells_length,c4];omega
     ·have:=mF.append (R:=eZ g.U w) (tl:=(Builtin.zeroCells z.cells (grownCap w (len+b.size) (g.cap k) d-(len+b.size))).toList) cn eq X fn S T;have e:(xs.toArray++(Lib.strCells b).toArray++Builtin.zeroCells z.cells (grownCap w (len+b.size) (g.cap k) d-(len+b.size)))=(xs++Lib.strCells b++(Builtin.zeroCells z.cells (grownCap w (len+b.size) (g.cap k) d-(len+b.size))).toList).toArray:=by apply ik;simp
      rw[e];exact this
   ·simp at l
  ·simp at l
 ·simp at l
end
end Go.Hf
