import Derived.Test.YteehpeajjbkjnaaGreatDoorAa
import Derived.WalkSpells
import Derived.Lib.AppendStr
set_option linter.all false
namespace Go.Hf
open Go.RowKit
section
variable{b m off:Nat}{agg:Bool}{x i:Operand}
section
variable{P:Program}{n B bs:Nat}{O:Nat->Prop}{gl:eh}{ph:cx×cT×World×List Deferred}{g:cx}{s:cK}{a:Act}{w:World}{o:Oper}{K:Act->World->Prop}{Q:Exit->Act->World->Prop}
theorem cell_of_heap{j T:Nat}{bK:Array Value}(h:w.heap[b]? =some (.cells bK T (0,0))):w.cell? ⟨b,j,none⟩=bK[j]? :=by simp[World.cell?,h]
theorem dZ.LV{t:TypeId}(A:vm P t agg m){o':Nat}{cs:eb}{p:aT}(k:qn agg m cs off=some p)
 (C:∀(j:Nat) (q:aT),cs[j]? =some q->∃u,w.cell? ⟨b,o'+j,none⟩=some u/\q.iN=true/\g2 g w s.bC q u):
 ∃v,(loadVar t ⟨b,o'+off,none⟩).run P w= .ok v w/\dZ g w s.bC p v:=by
 cases agg with
 |true=>
  simp only[qn,gF]at k;split at k;rename_i I;cases k;have r:∀j,j<m->∃u,w.cell? ⟨b,o'+off+j,none⟩=some u/\∀q,cs[off+j]? =some q->q.iN=true/\g2 g w s.bC q u:=by
   intro j d;have c:off+j<cs.length:=by omega
   obtain⟨u,y,D,z⟩:=C (off+j) cs[off+j] (fo c);refine⟨u,by rw[rp];exact y,λq e=>?_⟩;rw[fo c]at e;cases e;exact⟨D,z⟩
  let f:Nat->Value:=λj=>if d:j<m then(r j d).choose else undef;have E:∀j (d:j<m),w.cell? ⟨b,o'+off+j,none⟩=some (f j)/\∀q,cs[off+j]? =some q->q.iN=true/\g2 g w s.bC q (f j):=by
   intro j d;have:f j=(r j d).choose:=by simp[f,d]
   rw[this];exact(r j d).choose_spec
  refine⟨.agg ((List.range m).map f).toArray,?_,?_⟩;refine avz A b (o'+off) _ (by simp) (λj v F=>?_);simp only[lx,jG]at F;obtain⟨G,l,rfl⟩:=F;have c:j<m:=by rcases DK j m with h|h;exact h;rw[rt (by simpa using h)]at l;cases l
  have:G=j:=by simp[Ii c]at l;exact l.symm
  subst this;exact(E G c).1;refine .inr (.inr (.inl ⟨_,_,rfl,rfl,by simp;omega,λj q u e H=>?_⟩));have c:j<m:=by rcases DK j m with h|h;exact h;rw[rt (by simp;omega)]at e;cases e
  rw[nz,dr c,u9]at e;simp only[lx,Ii c,jH,dN]at H;subst H;exact(E j c).2 q e;simp at k
 |false=>simp only[qn,io,hV]at k;obtain⟨u,y,D,z⟩:=C off p k;exact⟨u,avA A _ u y,.inr (.inl z)⟩
theorem awl:iL gl ph n B O g s a w P o K Q bs (.load agg m x):=by
 intro p us h hd X c F;obtain⟨t,ho,G,Y⟩:=X;have l:=h.ga Y;have H:∀(b o':Nat) (v:Value),a.eval x= .pointer (some ⟨b,o',none⟩)->(loadVar t ⟨b,o',none⟩).run P w= .ok v w->(execOp a.eval o).run P w= .ok (.value v) w:=by intro b o' v y z;simp only[execOp,ho,Instr.loadAt,y,Instr.sureAddr,fy,g7,fU,z]
 simp only[c9]at c;split at c;rename_i k bZ off A;rw[A]at l;obtain⟨_,Z,y,z⟩:=l.kz (by simp[aT.key,aT.cJ]);split at c;rename_i s' cs C;split at c;rename_i I;subst I;simp only[jG,h4]at c;obtain⟨W,c,rfl,rfl⟩:=c;have D:=h.h1 k;rw[C]at D;obtain⟨bK,T,J,al,eE,eV⟩:=D;have L:=z cs C;obtain⟨v,r,E⟩:=dZ.LV (s:=s) (g:=g) (w:=w) (b:=g.cr k) (o':=0) G c (λj q d=>by obtain⟨u,M,N,R⟩:=eV j q d;exact⟨u,by rw[ou,cell_of_heap J];exact M,N,R⟩)
 rw[ou]at r;exact g6 h hd (H _ _ v (by rw[y,L]) r) E F;simp at c;simp at c;rename_i k bZ i off A;rw[A]at l;obtain⟨_,Z,y,z⟩:=l.kz (by simp[aT.key,aT.cJ]);split at c;rename_i s' e sz es bL C;split at c;rename_i I;subst I;cases S:es[i]? with
 |none=>simp[S]at c
 |some cs=>
  simp only[S,tH,jG,h4]at c;obtain⟨W,c,rfl,rfl⟩:=c;have D:=h.h1 k;rw[C]at D;obtain⟨bK,J,al,eE,eV,hM,i4,mm,mn⟩:=D;have L:=z e sz es bL C;obtain⟨v,r,E⟩:=dZ.LV (s:=s) (g:=g) (w:=w) (b:=g.cr k) (o':=i*sz) G c (λj q d=>by obtain⟨u,M,N,R⟩:=i4 i j cs q S d;exact⟨u,by rw[cell_of_heap J];exact M,N,.inl R⟩)
  exact g6 h hd (H _ _ v (by rw[y,L]) r) E F
 simp at c;simp at c;rename_i cs off A;rw[A]at l;simp only[jG,h4]at c;obtain⟨W,c,rfl,rfl⟩:=c;have e:=l.Cw;cases V:a.eval x with
 |pointer q=>
  rw[V]at e;cases e with
  |gk ar hb hc a1 a2 hv=>rename_i b o';obtain⟨v,r,E⟩:=dZ.LV (s:=s) (g:=g) (w:=w) (b:=b) (o':=o') G c (λj q d=>⟨ar j,a1 j q d,a2 j q d,.inl (hv j q d)⟩);exact g6 h hd (H _ _ v V r) E F
 |_=>rw[V]at e;cases e
 simp at c
theorem awe{u:Nat}:iL gl ph n B O g s a w P o K Q bs (.pW u x):=by
 intro p us h hd E d y;obtain⟨t,V,W,f,i,ho,F,G,H,hi,I,J⟩:=E;have j:=h.ga J;have z:∀c:Addr,a.eval x= .pointer (some c)->(execOp a.eval o).run P w= .ok (.value (.pointer (some (c.add u)))) w:=by intro c l;simp only[execOp,ho,Instr.fieldAt,fy,i7 F,fU,G,l,Instr.sureAddr,g7,fieldPlace,run_sizeOf hi,I,hV,H]
 simp only[c9]at d;split at d;rename_i k bZ off r;rw[r]at j;cases d;obtain⟨e0,c,l,A⟩:=j.kz (by simp[aT.key,aT.cJ]);refine g6 (p:= .aQ k bZ (off+u)) h hd (z c l) (.inr (.inl (.inr ⟨e0,_,rfl,λcs C=>?_⟩))) y;rw[A cs C,add_lit];rename_i k bZ i' off r;rw[r]at j;cases d;obtain⟨e0,c,l,A⟩:=j.kz (by simp[aT.key,aT.cJ]);refine g6 (p:= .eP k bZ i' (off+u)) h hd (z c l) (.inr (.inl (.inr ⟨e0,_,rfl,λe sz es bL C=>?_⟩))) y;rw[A e sz es bL C,add_lit,rp];rename_i cs off r;rw[r]at j;cases d;have e:=j.Cw;cases D:a.eval x with
 |pointer q=>
  rw[D]at e;cases e with
  |gk L M N R S T=>refine g6 h hd (z _ D) (.inr (.inl (.inl ?_))) y;rw[add_lit,rp];exact .gk L M N R S T
 |_=>rw[D]at e;cases e
 simp at d
theorem awf:iL gl ph n B O g s a w P o K Q bs (.r0 agg off m x):=by
 intro p us h hd H c l;obtain⟨t,S,T,f,ho,r,y,z,I,J⟩:=H;have A:=h.ga J;simp only[c9]at c;split at c;rename_i cs e;rw[e]at A;simp only[jG,h4]at c;obtain⟨L,c,rfl,rfl⟩:=c;obtain⟨vs,C,V,D⟩:=A.wR;obtain⟨W,d,hi,M,E,F,_⟩:=I;cases agg with
 |true=>simp only[qn,gF]at c;split at c;rename_i X;cases c;refine g6 h hd (v:= .agg ((vs.drop off).take m).toArray) ?_ (.inr (.inr (.inl ⟨_,_,rfl,rfl,by simp;omega,λj q u k e=>?_⟩))) l;simp only[execOp,ho,Instr.field,fy,i7 r,fU,y,C,asAgg,g7,part,yx E,F,gF,run_sizeOf hi,M,z];simp[List.extract_eq_take_drop];rw[nz]at k e;split at k;rename_i N;rw[dr N]at e;rw[u9]at k e;exact D _ q u k e;cases k;simp at c
 |false=>
  simp only[qn,io,hV]at c;have G:off<vs.length:=by have:=(g8.1 c).1;omega
  have R:vs[off]? =some vs[off]:=fo G;refine g6 h hd (v:=vs[off]) ?_ (.inr (.inl (D off L _ c R).2)) l;simp only[execOp,ho,Instr.field,fy,i7 r,fU,y,C,asAgg,g7,part,yx E,F,io,hV,z];simp[G]
 simp at c
theorem awA:iL gl ph n B O g s a w P o K Q bs (.sq x i):=by
 intro p us h hd d c q;obtain⟨t,ho,r,u,hi⟩:=d;have e:=h.ga u;have j:=h.ga hi;simp only[c9]at c;split at c;rename_i str k m y z;rw[y]at e;rw[z]at j;split at c;rename_i A;simp only[jG,h4]at c;obtain⟨b,l,rfl,rfl⟩:=c;have D:m.toNat<str.size:=by have:=(g8.1 l).1;simpa using this
 have C:str[m.toNat]=b:=by have:=(g8.1 l).2;simp at this;exact this
 refine g6 h hd (v:= .int .u8 b.toNat) ?_ (.bo rfl) q;have d:=run_index_string (P:=P) w t str k m r;rw[dif_pos ⟨A,by omega⟩,C]at d;simp only[execOp,ho,e.fY.1,j.fY.1,fy,d,fU,g7];simp at c;simp at c
theorem awi{sz:Nat}:iL gl ph n B O g s a w P o K Q bs (.qU sz x i):=by
 intro p us h hd X d R;obtain⟨t,e,b1,ho,Y,Z,al,hx,hi⟩:=X;have A:=h.ga hx;have C:=h.ga hi;have S:∀(k:IntKind) (m:Int) (D:Addr) (len E:Nat),a.eval i= .int k m->a.eval x= .slice (some D) len E->0<=m->m<len->
  (execOp a.eval o).run P w= .ok (.value (.pointer (some (D.add (m.toNat*sz))))) w:=by
  intro k m D len E r T F G;simp[execOp,ho,Instr.indexAt,r,asIntOf,i7 Y,T,F,G,run_sizeOf Z,al]
 simp only[c9]at d;split at d;rename_i u es k m H I;rw[H]at A;rw[I]at C;split at d;rename_i J;obtain⟨L,J⟩:=J;subst L;simp only[jG,h4]at d;obtain⟨cs,y,rfl,rfl⟩:=d;have r:=A.x7;have ar:m.toNat<es.length:=(g8.1 y).1;cases M:a.eval x with
 |slice q l c=>
  rw[M]at r;cases r with
  |aN a1 b2 cc hb N a2 a3 a4 a5=>rename_i b o';refine g6 h hd (S k m _ _ _ C.fY.1 M J (by omega)) (.inr (.inl (.inl ?_))) R;rw[add_lit];have hl:=a2 _ _ y;have h3:(m.toNat+1)*u<=es.length*u:=jP u ar;rw[iT,ov]at h3;have cn:=N (by omega);refine fM.gk (o:=o'+m.toNat*u) (off:=0) (a1 m.toNat) hb (by omega) (λj p z=>?_) (λj p z=>a4 _ _ _ _ y z) (λj p z=>a5 _ _ _ _ y z);rw[rp];exact a3 _ _ _ _ y z
 |_=>rw[M]at r;cases r
 simp at d;rename_i k bZ off len bd m H I;rw[H]at A;rw[I]at C;split at d;rename_i s' e' u es bL V;split at d;rename_i N;obtain⟨hs,L,F,G⟩:=N;subst hs;subst L;cases d;obtain⟨e0,b,o',E,r,T,cu,bx⟩:=A.kz (by simp[aT.key,aT.cJ]);obtain⟨f1,f2,f3,f4⟩:=bx _ _ _ _ V;refine g6 (p:= .eP k bZ (off+m.toNat) 0) h hd (S bd m _ _ _ C.fY.1 r F G) (.inr (.inl (.inr ⟨e0,_,rfl,λcY c0 c1 c2 W=>?_⟩))) R;rw[V]at W;cases W;rw[add_lit,f2,f3 (.inl (by omega)),rq,iT];simp at d;simp at d;simp at d
theorem awj{neg:Bool}:iL gl ph n B O g s a w P o K Q bs (.r5 neg x):=by
 intro p us h hd E j u;obtain⟨t,G,e,ho,C,F⟩:=E;have k:=h.ga F;have y:∀(q:Option Addr) (l c:Nat),a.eval x= .slice q l c->(execOp a.eval o).run P w= .ok (.value (.bool (xor neg q.isNone))) w:=by intro q l c d;have D:a.eval (.const (.slice none 0 0))= .slice none 0 0:=rfl;cases neg;simp only[uj,io,hV]at ho;have z:=Lib.run_eql_slice_nil (P:=P) w t e q l c 0 0 C;simp only[execOp,ho,d,D,eqGuard,fy,g7];simp;rw[z];simp;simp only[uj,gF]at ho;have z:=run_neq_slice_nil_any (P:=P) w t e q l c 0 0 C;simp only[execOp,ho,d,D,eqGuard,fy,g7];simp;rw[z];simp
 simp only[c9]at j;split at j;rename_i r;rw[r]at k;cases j;have:=y _ _ _ k.fY.1;refine g6 h hd (v:= .bool !neg) (by rw[this];cases neg<;>rfl) (.bo rfl) u;rename_i sz es r;rw[r]at k;cases j;have d:=k.x7;cases A:a.eval x with
 |slice q l c=>rw[A]at d;cases d;have:=y _ _ _ A;refine g6 h hd (v:= .bool neg) (by rw[this];cases neg<;>rfl) (.bo rfl) u
 |_=>rw[A]at d;cases d
 rename_i r;rw[r]at k;cases j;obtain⟨_,b,o',H,d,_⟩:=k.kz (by simp[aT.key,aT.cJ]);have:=y _ _ _ d;refine g6 h hd (v:= .bool neg) (by rw[this];cases neg<;>rfl) (.bo rfl) u;simp at j
end
end
section
variable{x:Operand}{lo hi:Option Operand}
section
variable{P:Program}{n B bs:Nat}{O:Nat->Prop}{gl:eh}{ph:cx×cT×World×List Deferred}{g:cx}{s:cK}{a:Act}{w:World}{o:Oper}{K:Act->World->Prop}{Q:Exit->Act->World->Prop}
theorem avy{t:TypeId}{f1 f2:Field}(j:P.underlying t=some (.struct #[f1,f2]))(br:f1.name≠ "_")(dM:f2.name≠ "_")(fP:f1.offset=0)(q:f2.offset=1)
 (k:P.underlying f1.type=some .string)(l:P.underlying f2.type=some .string)(r:P.stoodInHeld t=false)(b c d e:ByteArray):
 (Op.equalIn 10000 t (.agg #[.string b,.string c]) (.agg #[.string d,.string e])).run P w= .ok (b.toList==d.toList&&c.toList==e.toList) w:=by
 have p:P.fieldsOf t= #[f1,f2]:=by simp[Program.fieldsOf,j]
 rw[run_equalIn_struct (P:=P) w 9999 t _ _ (by rw[p];exact j) r,p];have u:(Op.equalIn 9999 f1.type (.string b) (.string d)).run P w= .ok (b.toList==d.toList) w:=run_equalIn_string (P:=P) w 9998 f1.type b d k;have y:(Op.equalIn 9999 f2.type (.string c) (.string e)).run P w= .ok (c.toList==e.toList) w:=run_equalIn_string (P:=P) w 9998 f2.type c e l;have z:∀h i:Value,(part f1.type #[h,i] f1.offset).run P w= .ok h w:=by intro h i;simp[part,yx k,wQ,fP]
 have A:∀h i:Value,(part f2.type #[h,i] f2.offset).run P w= .ok i w:=by intro h i;simp[part,yx l,wQ,q]
 simp only[Op.eqFields,ne_eq,br,dM,not_false_eq_true,gF,fy,z,fU,u];cases b.toList==d.toList;simp;simp only[gX,io,hV,fy,A,fU,y,yI];cases c.toList==e.toList<;>simp
theorem awc{neg:Bool}{y:Operand}:iL gl ph n B O g s a w P o K Q bs (.rZ neg x y):=by
 intro p us h hd G b H;obtain⟨t,a3,f1,f2,ho,I,br,dM,fP,J,L,M,N,j,d,R⟩:=G;have k:=h.ga d;have l:=h.ga R;have r:∀{q:aT}{v:Value}{e i:ByteArray},q= .agg [.bo (.string e),.bo (.string i)]->dZ g w s.bC q v->v= .agg #[.string e,.string i]:=by
  intro q v e i S d;subst S;obtain⟨vs,rfl,T,c⟩:=d.wR
  match vs,T with
  |[V,W],_=>have X:=(c 0 _ V rfl rfl).2;have Y:=(c 1 _ W rfl rfl).2;have Z:=(dZ.fY (.inr (.inl X))).1;have al:=(dZ.fY (.inr (.inl Y))).1;rw[Z,al]
 simp only[c9]at b;split at b;rename_i u z A C ar c;rw[ar]at k;rw[c]at l;cases b;have D:=r rfl k;have E:=r rfl l;have F:=avy (P:=P) (w:=w) I br dM fP J L M N u z A C;refine g6 h hd (v:= .bool (xor neg (u.toList==A.toList&&z.toList==C.toList))) ?_ (.bo rfl) H;cases neg;simp only[uj,io,hV]at ho;simp only[execOp,ho,D,E,fy,run_eqGuard_agg w .eql t x y _ _ j,fU,run_eql_struct,F,g7];simp;simp only[uj,gF]at ho;simp only[execOp,ho,D,E,fy,run_eqGuard_agg w .neq t x y _ _ j,fU,run_neq_struct,F,g7];simp;simp at b
def D1(ju:Nat)(b:Option Value)(m:Nat):Prop:=(b=none/\m=ju)\/∃k i,b=some (.int k i)/\0<=i/\m=i.toNat
theorem cL.xu(h:cL gl ph n B O g s a w){ju m:Nat}{ox:Option Operand}(c:(o1 ox).all c6=true)(b:mG (eX s.aI) ju ox=some m):D1 ju (ox.map a.eval) m:=by
 cases ox with
 |none=>simp only[mG,dN]at b;exact .inl ⟨rfl,b.symm⟩
 |some x=>
  have d:c6 x=true:=by simpa[o1] using c
  have e:=h.ga d;simp only[mG]at b;split at b;rename_i k i j;rw[j]at e;split at b;rename_i l;cases b;exact .inr ⟨k,i,by simp[e.fY.1],l,rfl⟩;simp at b;simp at b
theorem adR(b:Bool)(len c:Nat)(lo hi:Option Value)(l r:Nat)(u:D1 0 lo l)(z:D1 len hi r)(h:l<=r)(j:r<=c):
 (Instr.sliceBounds b len c lo hi none).run P w= .ok (l,r,c) w:=by
 have d:∀(e:BoundsCode) (k:IntKind) (i:Int) (y:Nat),0<=i->i.toNat<=y->(Instr.sliceBound (.int k i) y e).run P w= .ok i.toNat w:=by intro e k i y A C;exact run_sliceBound w k i y e A (by omega)
 rcases u with⟨rfl,rfl⟩|⟨k,i,rfl,p,rfl⟩<;>rcases z with⟨rfl,rfl⟩|⟨q,i',rfl,t,rfl⟩;simp[Instr.sliceBounds];simp[Instr.sliceBounds,d _ q i' c t j];simp[Instr.sliceBounds,d _ k i r p h];simp[Instr.sliceBounds,d _ q i' c t j,d _ k i i'.toNat p h]
theorem awC:iL gl ph n B O g s a w P o K Q bs (.sr x lo hi):=by intro p us h hd c b k;obtain⟨t,ho,e,q,d⟩:=c;have i:=h.ga q;simp only[List.all_append,cC]at d;simp only[c9]at b;split at b;rename_i str u;rw[u]at i;split at b;rename_i l r y c;split at b;rename_i j;cases b;refine g6 h hd (v:= .string (str.extract l r)) ?_ (.bo rfl) k;have z:=adR (P:=P) (w:=w) false str.size str.size _ _ l r (h.xu d.1 y) (h.xu d.2 c) j.1 j.2;simp only[execOp,ho,i.fY.1,Option.map_none,fy,run_sliceAt_string w t _ _ _ _ e,Instr.slice,i7 e,fU];simp;rw[z];simp;simp at b;simp at b;simp at b
theorem awB{sz:Nat}:iL gl ph n B O g s a w P o K Q bs (.ri sz x lo hi):=by
 intro p us h hd D d S;obtain⟨t,e,i,ho,ht,a4,a5,hx,E⟩:=D;have I:=h.ga hx;simp only[List.all_append,cC]at E;have W:∀(q:Option Addr) (len z l r:Nat),a.eval x= .slice q len z->D1 0 (lo.map a.eval) l->D1 len (hi.map a.eval) r->l<=r->r<=z->
  (execOp a.eval o).run P w= .ok (.value (.slice (if z=l then q else q.map (·.add (l*sz))) (r-l) (z-l))) w:=by
  intro q len z l r A F G h3 bd;have T:=adR (P:=P) (w:=w) true len z _ _ l r F G h3 bd;simp only[execOp,ho,A,Option.map_none,Instr.sliceAt,Instr.slice,fy,i7 ht,fU,T,run_sizeOf a4,a5,g7]
 simp only[c9]at d;split at d;rename_i u es J;rw[J]at I;split at d;rename_i l r L D;split at d;rename_i bx;obtain⟨rfl,X,dt⟩:=bx;cases d;have A:=I.x7;cases Y:a.eval x with
 |slice q l' c=>
  rw[Y]at A;cases A with
  |aN b1 dz hm T Z b2 cc cn hv=>
   rename_i b o';have ar:((es.drop l).take (r-l)).length=r-l:=by simp;omega
   have V:∀(k:Nat) (cs:eb),((es.drop l).take (r-l))[k]? =some cs->es[l+k]? =some cs/\k<r-l:=by intro k cs y;rw[nz]at y;split at y;rename_i cu;rw[u9]at y;exact⟨y,cu⟩;cases y
   refine g6 h hd (W _ _ _ l r Y (h.xu E.1 L) (h.xu E.2 D) X (by omega)) (.inr (.inl (.inl ?_))) S;by_cases M:c=l;rw[dr M];have a1:r-l=0:=by omega
   have cY:(es.drop l).take (r-l)=[]:=by rw[a1];simp
   rw[cY];have:(aT.aN u [])= .aN u []:=rfl;have a2:r-l=([]:l7).length:=by simpa using a1
   rw[a2];exact .aN (λ_ _=>undef) (by simp) (by omega) T (by simp) (by simp) (by simp) (by simp) (by simp);rw[dU M];simp only[jH,add_lit];have a3:fM g.af w (.aN u ((es.drop l).take (r-l))) (.slice (some ⟨b,o'+l*u,none⟩) ((es.drop l).take (r-l)).length (c-l)):=by refine .aN (λk j=>b1 (l+k) j) (by omega) (by omega) T (λee=>?_) (λk cs y=>b2 _ _ (V k cs y).1) (λk j cs q y N=>?_) (λk j cs q y N=>cn _ _ _ _ (V k cs y).1 N) (λk j cs q y N=>hv _ _ _ _ (V k cs y).1 N);have em:=Z (by omega);rw[ar];have c0:(l+(r-l))*u<=es.length*u:=jP _ (by omega);rw[iT]at c0;omega;have:=cc (l+k) j cs q (V k cs y).1 N;rw[iT]at this;rw[show o'+l*u+(k*u+j)=o'+(l*u+k*u+j) by omega];exact this
   rw[ar]at a3;exact a3
 |_=>rw[Y]at A;cases A
 simp at d;simp at d;rename_i k bZ off len J;rw[J]at I;split at d;rename_i l r s' e' u es bL L D al;split at d;rename_i Z;obtain⟨hs,c1,X,a2⟩:=Z;subst hs;subst c1;cases d;obtain⟨e0,b,o',z,A,en,eq,c2⟩:=I.kz (by simp[aT.key,aT.cJ]);obtain⟨f1,f2,f3,f4⟩:=c2 _ _ _ _ al;have H:=W _ _ _ l r A (h.xu E.1 L) (h.xu E.2 D) X (by omega);by_cases M:z=l;rw[dr M]at H;refine g6 (p:= .aV k bZ (off+l) (r-l)) h hd H (.inr (.inl (.inr ⟨e0,b,o',z-l,rfl,by omega,by omega,λc3 c4 c5 dd R=>?_⟩))) S;rw[al]at R;cases R;refine⟨by omega,f2,λC=>?_,λC=>?_⟩;rcases C with C|C;omega;have F:off=0:=by omega
 have G:l=0:=by omega
 subst F;subst G;exact f3 (.inr rfl);have F:off=0:=by omega
 have G:l=0:=by omega
 subst G;simpa using f4 F;rw[dU M]at H;simp only[jH,add_lit]at H;refine g6 (p:= .aV k bZ (off+l) (r-l)) h hd H (.inr (.inl (.inr ⟨e0,b,o'+l*u,z-l,rfl,by omega,by omega,λc3 c4 c5 dd R=>?_⟩))) S;rw[al]at R;cases R;refine⟨by omega,f2,λC=>?_,λC=>?_⟩;have ds:o'=off*u:=by rcases C with C|C;exact f3 (.inl (by omega));exact f3 (.inr (by omega))
 rw[ds,iT];have F:off=0:=by omega
 have G:l=0:=by omega
 subst G;simpa using f4 F;simp at d;simp at d;rename_i J;rw[J]at I;split at d;rename_i L D;cases d;have A:=I.fY.1;have H:=W _ _ _ 0 0 A (h.xu E.1 L) (h.xu E.2 D) (dn _) (dn _);exact g6 h hd H (.bo rfl) S;simp at d;simp at d
end
end
section
variable{y:Go.Obj}{d cap t k bZ sz m:Nat}{cs:eb}{x:Operand}{ob:cT}{p:aT}{v:Value}
section
variable{P:Program}{n B bs:Nat}{O:Nat->Prop}{gl:eh}{ph:cx×cT×World×List Deferred}{g:cx}{s:cK}{a:Act}{w w':World}{o:Oper}{K:Act->World->Prop}{Q:Exit->Act->World->Prop}
theorem Rt(c:w'.heap=w.heap.push y){b:Nat}(e:b<w.heap.size):w'.heap[b]? =w.heap[b]? :=by rw[c,Array.getElem?_push,dU (by omega)]
theorem Rs(b:w'.heap=w.heap.push y):w'.heap[w.heap.size]? =some y:=by rw[b,Array.getElem?_push,dr rfl]
def cx.new(g:cx)(w:World)(d cap:Nat):cx:=⟨dk g.af w.heap.size 0,dk g.cr d w.heap.size,dk g.cap d cap⟩
theorem gA.push(g:cx)(h:w'.heap=w.heap.push y):gA g.af w (g.new w d cap).af w':=by refine⟨by rw[h];simp,λb e=>?_,λb i e hi=>?_⟩;simp[cx.new,dk,Nat.ne_of_lt e];simp only[World.cell?,Rt h e]
theorem eM.push(h:cL gl ph n B O g s a w)(e:w'.heap=w.heap.push y)(ho:w'.os=w.os)(i:w'.tape=w.tape)(j:w'.output=w.output):
 eM B O g.af w (g.new w d cap).af w':=by
 have q:=h.jJ;refine⟨ho,i,j,by rw[e];simp,λb l _=>Rt e (by omega),λb l _=>?_⟩;have:b≠w.heap.size:=by omega
 simp[cx.new,dk,this]
theorem gb.new(g:cx)(ob:cT)(w:World)(d cap:Nat)(x:Obj)(c:(ob d).cH<x.cH):gb g ob (g.new w d cap) (dk ob d x):=by intro k;by_cases h:k=d;subst h;simp only[jc];refine⟨by omega,λcs b=>?_,λe sz es bL b=>?_,λes b=>?_⟩;rw[b]at c;exact absurd c (Nat.lt_irrefl _);rw[b]at c;exact absurd c (Nat.lt_irrefl _);rw[b]at c;exact absurd c (Nat.lt_irrefl _);simp only[h9 _ _ h];refine⟨dn _,λcs b=>⟨⟨cs,b⟩,?_⟩,λe sz es bL b=>⟨⟨es,bL,b,dn _⟩,?_,?_⟩,λes b=>⟨⟨es,b⟩,?_⟩⟩<;>simp[cx.new,dk,h]
theorem cL.new(h:cL gl ph n B O g s a w){y:Go.Obj}(d cap:Nat)(x:Obj)(r:(s.bC d).cH<x.cH)(b:w'.heap=w.heap.push y)
 (u:l5 (g.new w d cap) w' (dk s.bC d x) d x):cL gl ph n B O (g.new w d cap) ⟨s.aI,dk s.bC d x⟩ a w':=by
 refine h.v3 (dk s.bC d x) (· =d) (gA.push g b) (gb.new g s.bC w d cap x r) (λk c=>h9 _ _ c) (λk i j=>?_) (λk c j=>?_);have e:=(h.hP k j).2;refine⟨by simp[cx.new,dk,i],by simp[cx.new,dk,i],by simp[cx.new,dk,Nat.ne_of_lt e],Rt b e⟩;subst c;have A:=h.jJ;refine⟨by rw[jc];exact u,.inl (by simp[cx.new,dk];omega),by rw[b];simp[cx.new,dk],λz l q=>?_⟩;rw[h9 _ _ l]at q;have e:=(h.hP z q).2;simp[cx.new,dk,l];omega
theorem g2.new{ob:cT}(g:cx){y:Go.Obj}{d cap:Nat}{x:Obj}(b:(ob d).cH<x.cH)(c:w'.heap=w.heap.push y){p:aT}{v:Value}
 (h:g2 g w ob p v):g2 (g.new w d cap) w' (dk ob d x) p v:=h.step (gA.push g c) (gb.new g ob w d cap x b)
theorem aec(h:cL gl ph n B O g s a w)(hd:∀t,o.dst=some t->t<n)(G:o.dst.isSome=true){T:Nat}{bK:Array Value}
 (e:(execOp a.eval o).run P w= .ok (.value (.pointer (some ⟨w.heap.size,0,none⟩))) (w.alloc (.cells bK T)))(i:bK.size=cs.length)(l:T<65536)
 (r:∀(j:Nat) (q:aT),cs[j]? =some q->∃u,bK[j]? =some u/\q.iN=true/\g2 g w s.bC q u)
 (z:qD gl ph n B O g w ⟨put s.aI o.dst (.aQ (bs+o.dst.getD 0) (kP (s.bC (bs+o.dst.getD 0)).cH T) 0),fE s.bC [(bs+o.dst.getD 0,.box (kP (s.bC (bs+o.dst.getD 0)).cH T) cs)]⟩ K):o.wp P a w K Q:=by
 generalize bs+o.dst.getD 0=d at*;have b:(w.alloc (.cells bK T)).heap=w.heap.push (.cells bK T (0,0)):=rfl;have c:(s.bC d).cH<(Obj.box (kP (s.bC d).cH T) cs).cH:=awJ _ _;have A:=h.new (w':=w.alloc (.cells bK T)) d 0 (.box (kP (s.bC d).cH T) cs) c b (by refine⟨bK,T,?_,⟨i,awL l⟩,?_,λj q C=>?_⟩;simp only[cx.new,jc];exact Rs b;simp[cx.new,dk];obtain⟨u,D,E,F⟩:=r j q C;exact⟨u,D,E,F.new g c b⟩)
 refine AJ e (z _ _ _ (by exact A.put o.dst hd (p:= .aQ d (kP (s.bC d).cH T) 0) (v:= .pointer (some ⟨w.heap.size,0,none⟩)) (.inr (.inl (.inr ⟨by simp[dk,Obj.cH],_,rfl,λhu _=>by simp[cx.new,dk]⟩)))) (eM.push h b rfl rfl rfl))
theorem avV{zero:List Value}:iL gl ph n B O g s a w P o K Q bs (.alloc t zero):=by intro p us h hd u c A;obtain⟨ho,C,D,sz,i,z,hi,E,e,_,_,F⟩:=u;simp only[c9]at c;cases c;refine aec h hd D (bK:=z.cells) (T:=t) ?_ ?_ C ?_ A;simp only[execOp,ho,Instr.alloc,fy,HC hi E,fU,newVar,newRow,run_newObj,g7];rw[<-e];simp;intro j q l;simp only[lx,jG]at l;obtain⟨v,b,rfl⟩:=l;have r:iS v=true:=kg.1 F v (eH b);exact⟨v,by rw[<-e]at b;simpa using b,r,.inl (.bo r)⟩
theorem av2:iL gl ph n B O g s a w P o K Q bs (.box t x):=by intro p us h hd c b e;obtain⟨ho,i,l,r⟩:=c;have z:=h.ga r;simp only[c9]at b;split at b;rename_i cs A;cases b;obtain⟨C,D⟩:=z.cells A;refine aec h hd l (bK:=(a.eval x).cells) (T:=t) ?_ (by simpa using C) i (λj q E=>?_) e;simp only[execOp,ho,Instr.box,fy,fU,newVar,newRow,run_newObj,g7];obtain⟨u,F,G⟩:=D j q E;exact⟨u,by simpa using F,G⟩;simp at b
theorem cL.H7(h:cL gl ph n B O g s a w)(k:Nat)(x:Obj)(bK:Array Value)(j:(s.bC k).gg)(S:g.af (g.cr k)=0)
 (E:gb g s.bC g (dk s.bC k x))(F:l5 g (w.setRow (g.cr k) bK) (dk s.bC k x) k x):
 cL gl ph n B O g ⟨s.aI,dk s.bC k x⟩ a (w.setRow (g.cr k) bK)/\eM B O g.af w g.af (w.setRow (g.cr k) bK):=by
 obtain⟨G,H,I,J⟩:=HD w (g.cr k) bK;have l:∀b,b≠g.cr k->(w.setRow (g.cr k) bK).heap[b]? =w.heap[b]? :=λb q=>DL w (g.cr k) b bK (λe=>q (by simpa using e));have L:gA g.af w g.af (w.setRow (g.cr k) bK):=by refine⟨by omega,λ_ _=>dn _,λb i q hi=>?_⟩;by_cases u:b=g.cr k;subst u;omega;simp only[World.cell?,l b u]
 refine⟨h.v3 (dk s.bC k x) (· =k) L E (λc M=>h9 _ _ M) (λc r z=>?_) (λc r z=>?_),⟨G,H,I,by omega,λb q N=>l b ?_,λ_ _ _=>rfl⟩⟩;exact⟨rfl,rfl,rfl,l _ (λe=>r (h.inj c k z j e))⟩;subst r;refine⟨by rw[jc];exact F,(h.hP c j).1,by rw[J];exact(h.hP c j).2,λR A C=>?_⟩;rw[h9 _ _ A]at C;exactλe=>A (h.inj R c C j e);intro e;subst e;rcases(h.hP k j).1 with D|D;omega;exact N D
theorem gA.H7(g:cx)(w:World)(b:Nat)(bK:Array Value)(h:g.af b=0):gA g.af w g.af (w.setRow b bK):=by obtain⟨j,l,q,r⟩:=HD w b bK;refine⟨by omega,λ_ _=>dn _,λb' i u hi=>?_⟩;by_cases c:b'=b;subst c;omega;simp only[World.cell?,DL w b b' bK (λe=>c (by simpa using e))]
theorem gb.box(g:cx){hu:eb}(h:ob k= .box bZ cs):gb g ob g (dk ob k (.box bZ hu)):=by intro e;by_cases c:e=k;subst c;rw[jc,h];exact⟨dn _,λ_ _=>⟨⟨cs,rfl⟩,rfl⟩,(λ_ _ _ _ b=>by cases b),(λ_ b=>by cases b)⟩;rw[h9 _ _ c];exact⟨dn _,λcs b=>⟨⟨cs,b⟩,rfl⟩,λ_ _ es bL b=>⟨⟨es,bL,b,dn _⟩,rfl,rfl⟩,λes b=>⟨⟨es,b⟩,rfl⟩⟩
theorem gb.aV(g:cx){e:Nat}{es ea:l7}{bL Nd:Bool}(h:ob k= .aV bZ e sz es bL)(i:es.length<=ea.length):gb g ob g (dk ob k (.aV bZ e sz ea Nd)):=by intro j;by_cases c:j=k;subst c;rw[jc,h];refine⟨dn _,(λ_ b=>by cases b),λl q r u b=>?_,(λ_ b=>by cases b)⟩;cases b;exact⟨⟨es,bL,rfl,i⟩,rfl,rfl⟩;rw[h9 _ _ c];exact⟨dn _,λcs b=>⟨⟨cs,b⟩,rfl⟩,λ_ _ es bL b=>⟨⟨es,bL,b,dn _⟩,rfl,rfl⟩,λes b=>⟨⟨es,b⟩,rfl⟩⟩
theorem HK{α:Type}(l new:List α)(off j:Nat)(h:off+new.length<=l.length):
 (l.take off++new++l.drop (off+new.length))[j]? =if j<off then l[j]? else if j<off+new.length then new[j-off]? else l[j]? :=by
 simp only[Ig,u7,AY,nz,u9];have e:min off l.length=off:=by omega
 rw[e];by_cases b:j<off;simp[b,(by omega:j<off+new.length)];by_cases c:j<off+new.length;simp[b,c];simp only[b,c,hV];congr 1;omega
theorem m5.x3(h:m5 g ob p v):p.key≠[]:=by
 cases p with
 |ey f cR=>exact h.1
 |aQ=>simp[aT.key,aT.cJ]
 |aV=>simp[aT.key,aT.cJ]
 |eP=>simp[aT.key,aT.cJ]
 |fX=>simp[aT.key,aT.cJ]
 |_=>exact h.elim
theorem adb{ob:cT}:∀{cs b:eb},(∀q∈cs,q.key=[])->qi ob cs=some b->b=cs
 |[],b,_,h=>by simp[qi]at h;exact h
 |p::ps,b,c,h=>by
  simp only[qi]at h;split at h;rename_i q l r e;cases h;have i:q=p:=by have:=c p (by simp);cases p<;>simp_all [h8,aT.key,aT.cJ]
  rw[i,adb (λq j=>c q (by simp[j])) e];simp at h
theorem dZ.arT{q:aT}(h:dZ g w ob p v)(c:p.dl=[])(b:jb ob p=some q):q=p/\fM g.af w p v:=by
 cases p with
 |bo u=>simp only[jb,h8,dN]at b;obtain⟨rfl,A⟩:=h.fY;exact⟨b.symm,.bo A⟩
 |aN sz es=>simp only[jb,h8,dN]at b;exact⟨b.symm,h.x7⟩
 |gk cs off=>simp only[jb,h8,dN]at b;exact⟨b.symm,h.Cw⟩
 |agg cs=>simp only[aT.dl,aT.fe,wu]at c;simp only[jb,jG]at b;obtain⟨F,C,rfl⟩:=b;rw[adb c C];obtain⟨vs,rfl,D,z⟩:=h.wR;have E:∀(j:Nat) (r:aT),cs[j]? =some r->∃u,vs[j]? =some u:=λj r e=>⟨vs[j]'(by have:=(g8.1 e).1;omega),fo _⟩;refine⟨rfl,.agg D (λj r e=>?_) (λj r u e i=>?_)⟩;obtain⟨u,i⟩:=E j r e;exact(z j r u e i).1;rcases(z j r u e i).2 with l|l;exact l;exact absurd (c r (eH e)) l.x3
 |undef=>simp[jb,h8]at b
 |bD=>simp[jb,h8]at b
 |aQ=>simp[aT.dl,aT.fe,aT.key,aT.cJ]at c
 |aV=>simp[aT.dl,aT.fe,aT.key,aT.cJ]at c
 |eP=>simp[aT.dl,aT.fe,aT.key,aT.cJ]at c
 |fX=>simp[aT.dl,aT.fe,aT.key,aT.cJ]at c
 |ey=>simp[jb,h8]at b
theorem Yr{i i' j off:Nat}(c:j<sz)(e:off+m<=sz)(h:i'≠i):¬(i*sz+off<=i'*sz+j/\i'*sz+j<i*sz+off+m):=by rcases Nat.lt_or_gt_of_ne h with b|b;have:=jP sz (show i'+1<=i from b);rw[iT,ov]at this;omega;have:=jP sz (show i+1<=i' from b);rw[iT,ov]at this;omega
theorem awD{v:Operand}:iL gl ph n B O g s a w P o K Q bs (.store m x v):=by
 intro p us h hd hr D hk;obtain⟨t,eq,ho,ht,hx,hv⟩:=hr;have ex:=h.ga hx;have ev:=h.ga hv;have cu:∀(b o':Nat) (a3:World),a.eval x= .pointer (some ⟨b,o',none⟩)->(storeVar t ⟨b,o',none⟩ (a.eval v)).run P w= .ok () a3->(execOp a.eval o).run P w= .ok .skip a3:=by intro b o' a3 S V;simp only[execOp,ho,Instr.storeAt,S,Instr.sureAddr,fy,g7,fU,V]
 simp only[c9]at D;split at D;rename_i k bZ off a4;rw[a4]at ex;obtain⟨_,c0,S,V⟩:=ex.kz (by simp[aT.key,aT.cJ]);split at D;rename_i s' cs new J l;split at D;rename_i hc;obtain⟨rfl,W,c3⟩:=hc;cases D;obtain⟨H,X⟩:=ev.cells l;have Y:=h.h1 k;rw[J]at Y;obtain⟨bK,T,Z,c4,eE,eV⟩:=Y;have a5:=V cs J;have bd:∀u∈(a.eval v).cells.toList,u.oneCell'=true:=by
  intro u bx;obtain⟨j,A⟩:=yM.1 bx;have N:j<new.length:=by have:=(g8.1 A).1;omega
  obtain⟨u',r,z,c⟩:=X j new[j] (fo N);rw[A]at r;cases r;exact c.sh z
 have b1:=adU (P:=P) (w:=w) ht (g.cr k) off T bK (a.eval v) Z (by simpa[W] using H) (by omega) bd;have b2:(s.bC k).gg:=by rw[J];trivial
 let E:Array Value:=(bK.toList.take off++(a.eval v).cells.toList++bK.toList.drop (off+m)).toArray;have R:=gb.box g (hu:=nW cs off new) J;have L:=gA.H7 g w (g.cr k) E eE;have al:=h.H7 k (.box bZ (nW cs off new)) E b2 eE R (by
  refine⟨E,T,AP w (g.cr k) bK E T (0,0) Z,?_,eE,λj q F=>?_⟩;simp[E,nW];simp at H;omega;have c5:=HK cs new off j (by omega);have ar:=HK bK.toList (a.eval v).cells.toList off j (by rw[H];simp;omega);simp only[nW]at F;rw[c5]at F;have dd:E[j]? =(bK.toList.take off++(a.eval v).cells.toList++bK.toList.drop (off+(a.eval v).cells.toList.length))[j]? :=by simp only[E,H,W];simp
  rw[dd,ar];rw[H];by_cases c1:j<off;rw[dr c1]at F ⊢;obtain⟨u,r,z,c⟩:=eV j q F;exact⟨u,by simpa using r,z,c.step L R⟩;rw[dU c1]at F ⊢;by_cases c2:j<off+new.length;rw[dr c2]at F ⊢;obtain⟨u,r,z,c⟩:=X (j-off) q F;exact⟨u,r,z,c.step L R⟩;rw[dU c2]at F ⊢;obtain⟨u,r,z,c⟩:=eV j q F;exact⟨u,by simpa using r,z,c.step L R⟩)
 refine M8 (cu _ _ _ (by rw[S,a5]) b1) (hk g _ _ (al.1.put o.dst hd (.inl rfl)) al.2);simp at D;simp at D;rename_i k bZ i off a4;rw[a4]at ex;obtain⟨_,c0,S,V⟩:=ex.kz (by simp[aT.key,aT.cJ]);split at D;rename_i s' e sz es new J l;split at D;rename_i cs a1;split at D;rename_i hc;obtain⟨rfl,W,c3,C⟩:=hc;cases D;have Y:=h.h1 k;rw[J]at Y;obtain⟨bK,Z,c4,eE,eV,hM,i4,mm,mn⟩:=Y;have a5:=V e sz es true J;have er:=hM i cs a1;have ds:i<es.length:=(g8.1 a1).1;simp only[AR]at l;obtain⟨e0,cc,l⟩:=l;obtain⟨rfl,dt⟩:=ev.arT C cc;have dz:dZ g w (λ_=>Obj.aF 0) (eX s.aI v) (a.eval v):= .inr (.inl (.inl dt));obtain⟨H,X⟩:=dz.cells l;have ee:∀(j:Nat) (q:aT),new[j]? =some q->∃u,(a.eval v).cells.toList[j]? =some u/\q.iN=true/\fM g.af w q u:=by
  intro j q F;obtain⟨u,r,z,c⟩:=X j q F;refine⟨u,r,z,?_⟩;rcases c with c|c;exact c;exfalso;have M:q∈new:=eH F;have:q.key=[]:=by
   cases G:eX s.aI v with
   |agg hu=>rw[G]at C l;simp only[aT.dl,aT.fe,wu]at C;simp only[aT.cells,dN]at l;subst l;exact C q M
   |bo _=>rw[G]at C l;simp only[aT.cells,dN]at l;subst l;simp at M;subst M;exact C
   |aN _ _=>rw[G]at C l;simp only[aT.cells,dN]at l;subst l;simp at M;subst M;exact C
   |gk _ _=>rw[G]at C l;simp only[aT.cells,dN]at l;subst l;simp at M;subst M;exact C
   |undef=>rw[G]at l;simp[aT.cells]at l
   |bD _=>rw[G]at l;simp[aT.cells]at l
   |fX _ _=>rw[G]at C;simp[aT.dl,aT.fe,aT.key,aT.cJ]at C
   |ey _ _=>rw[G]at cc;simp[jb,h8]at cc
   |aQ _ _ _=>rw[G]at C;simp[aT.dl,aT.fe,aT.key,aT.cJ]at C
   |aV _ _ _ _=>rw[G]at C;simp[aT.dl,aT.fe,aT.key,aT.cJ]at C
   |eP _ _ _ _=>rw[G]at C;simp[aT.dl,aT.fe,aT.key,aT.cJ]at C
  exact c.x3 this
 have a2:g.af (g.cr k)=0:=mm rfl;have bd:∀u∈(a.eval v).cells.toList,u.oneCell'=true:=by
  intro u bx;obtain⟨j,A⟩:=yM.1 bx;have N:j<new.length:=by have:=(g8.1 A).1;omega
  obtain⟨u',r,z,c⟩:=X j new[j] (fo N);rw[A]at r;cases r;exact c.sh z
 have em:(i+1)*sz<=es.length*sz:=jP sz ds;rw[iT,ov]at em;have fl:es.length*sz<=g.cap k*sz:=jP sz eE;have b1:=adU (P:=P) (w:=w) ht (g.cr k) (i*sz+off) e bK (a.eval v) Z (by simpa[W] using H) (by omega) bd;have b2:(s.bC k).gg:=by rw[J];trivial
 let E:Array Value:=(bK.toList.take (i*sz+off)++(a.eval v).cells.toList++bK.toList.drop (i*sz+off+m)).toArray;have R:=gb.aV g (ea:=es.set i (nW cs off new)) (Nd:=true) J (by simp);have L:=gA.H7 g w (g.cr k) E a2;have en:(nW cs off new).length=sz:=by simp[nW];omega
 have cY:∀j,E[j]? =if j<i*sz+off then bK[j]? else if j<i*sz+off+m then(a.eval v).cells.toList[j-(i*sz+off)]? else bK[j]? :=by intro j;have ar:=HK bK.toList (a.eval v).cells.toList (i*sz+off) j (by rw[H];simp;omega);rw[H,W]at ar;simp only[E,DO,ar,AV]
 have al:=h.H7 k (.aV bZ e sz (es.set i (nW cs off new)) true) E b2 a2 R (by
  refine⟨E,AP w (g.cr k) bK E e (0,0) Z,?_,by simpa using eE,eV,λi' hu I=>?_,λi' j hu q I A=>?_,λ_=>a2,by rw[a2];omega⟩;simp[E];simp at H;omega;rw[DV]at I;split at I;cases I;exact en;exact hM i' hu I;rw[DV]at I;split at I;rename_i cn;subst cn;cases I;have N:j<sz:=by have:=(g8.1 A).1;omega
  simp only[nW]at A;rw[HK cs new off j (by omega)]at A;rw[cY];by_cases c1:j<off;rw[dr c1]at A;rw[dr (by omega)];obtain⟨u,r,z,c⟩:=i4 i j cs q a1 A;exact⟨u,r,z,c.mono L⟩;rw[dU c1]at A;rw[dU (by omega)];by_cases c2:j<off+new.length;rw[dr c2]at A;rw[dr (by omega)];obtain⟨u,r,z,c⟩:=ee (j-off) q A;exact⟨u,by rw[show i*sz+j-(i*sz+off)=j-off by omega];exact r,z,c.mono L⟩;rw[dU c2]at A;rw[dU (by omega)];obtain⟨u,r,z,c⟩:=i4 i j cs q a1 A;exact⟨u,r,z,c.mono L⟩;rename_i cn;have N:j<sz:=by have:=(g8.1 A).1;have:=hM i' hu I;omega
  have fn:=Yr (i:=i) (i':=i') (sz:=sz) (j:=j) (off:=off) (m:=m) N (by omega) (λx=>cn x.symm);rw[cY];obtain⟨u,r,z,c⟩:=i4 i' j hu q I A;refine⟨u,?_,z,c.mono L⟩;by_cases c1:i'*sz+j<i*sz+off;rw[dr c1];exact r;rw[dU c1,dU (by omega)];exact r)
 refine M8 (cu _ _ _ (by rw[S,a5]) b1) (hk g _ _ (al.1.put o.dst hd (.inl rfl)) al.2);simp at D;simp at D;simp at D;simp at D
end
end
section
variable{R:aT->Value->Prop}
def rg(bK:Array Value)(off:Nat):List Value->Array Value
 |[]=>bK
 |v::vs=>rg (bK.setIfInBounds off v) (off+1) vs
theorem aap(off:Nat):∀(vs:List Value) (m:Nat) (bK:Array Value),(vs.zipIdx m).foldl (λ(cs:Array Value) (x:Value×Nat)=>cs.setIfInBounds (off+x.2) x.1) bK=rg bK (off+m) vs
 |[],_,_=>rfl
 |v::vs,m,bK=>by simp only[List.zipIdx_cons,List.foldl_cons,rg];exact aap off vs (m+1) _
theorem MC:∀(vs:List Value) (off:Nat) (bK:Array Value),(rg bK off vs).size=bK.size
 |[],_,_=>rfl
 |v::vs,off,bK=>by simp only[rg];rw[MC vs];simp
theorem Td:∀(vs:List Value) (off:Nat) (bK:Array Value) (k:Nat),off+vs.length<=bK.size->
 (rg bK off vs)[k]? =if k<off then bK[k]? else if k<off+vs.length then vs[k-off]? else bK[k]?
 |[],off,bK,k,_=>by simp[rg];omega
 |v::vs,off,bK,k,h=>by simp only[rg];rw[Td vs (off+1) _ k (by simp at h ⊢;omega)];simp only[qw]at h ⊢;rw[AN];by_cases b:k<off;rw[dr (by omega),dU (by omega),dr b];by_cases d:k=off;subst d;rw[dr (by omega),dr rfl,dr (by omega),dU b,dr (by omega)];simp;rw[dU (by omega:¬k<off+1),dU (by omega:¬off=k),dU b];by_cases c:k<off+1+vs.length;rw[dr c,dr (by omega)];rw[show k-off=(k-(off+1))+1 by omega,AU];rw[dU c,dU (by omega)]
section
variable{P:Program}{n B bs:Nat}{O:Nat->Prop}{gl:eh}{ph:cx×cT×World×List Deferred}{g:cx}{s:cK}{a:Act}{w w':World}{o:Oper}{K:Act->World->Prop}{Q:Exit->Act->World->Prop}
def tK(R:aT->Value->Prop)(cs:eb)(bK:Array Value):Prop:=
 bK.size=cs.length/\∀(j:Nat) (q:aT),cs[j]? =some q->∃u,bK[j]? =some u/\q.iN=true/\R q u
theorem tK.zero(e:∀v,iS v=true->R (.bo v) v){zero:List Value}(h:zero.all iS=true):tK R (zero.map aT.bo) zero.toArray:=by refine⟨by simp,λj q b=>?_⟩;simp only[lx,jG]at b;obtain⟨v,c,rfl⟩:=b;have d:iS v=true:=kg.1 h v (eH c);exact⟨v,by simpa using c,d,e v d⟩
theorem tK.put{cs new:eb}{bK:Array Value}{vs:List Value}{off:Nat}(h:tK R cs bK)(c:vs.length=new.length)(d:off+new.length<=cs.length)
 (i:∀(j:Nat) (q:aT),new[j]? =some q->∃u,vs[j]? =some u/\q.iN=true/\R q u):tK R (nW cs off new) (rg bK off vs):=by
 refine⟨by rw[MC,h.1];simp[nW];omega,λj q b=>?_⟩;simp only[nW]at b;rw[HK cs new off j d]at b;rw[Td vs off bK j (by rw[h.1,c];exact d),c];by_cases c1:j<off;rw[dr c1]at b ⊢;exact h.2 j q b;rw[dU c1]at b ⊢;by_cases e:j<off+new.length;rw[dr e]at b ⊢;exact i _ q b;rw[dU e]at b ⊢;exact h.2 j q b
theorem Z8(b:Nat->Option (Nat×Nat))(bK:Array Value)(i off m:Nat)(v:Value)(c:List (Nat×Value))(d:b i=some (off,m))(e:v.cells.size=m)(k:off+m<=bK.size):
 Instr.fill b bK ((i,v)::c)=Instr.fill b (rg bK off v.cells.toList) c:=by
 simp only[Instr.fill,d,e];have h:v.cells.zipIdx.foldl (λ(cs:Array Value) (x:Value×Nat)=>cs.setIfInBounds (off+x.2) x.1) bK=rg bK off v.cells.toList:=by have:=aap off v.cells.toList 0 bK;simp only[rq]at this;rw[<-this,<-Array.foldl_toList,Array.toList_zipIdx]
 have j:¬(off+m>bK.size):=by omega
 simp only[ne_eq,not_true_eq_false,decide_false,Ic,j,io,hV];rw[<-h]
theorem cL.fill(h:cL gl ph n B O g s a w)(d:Nat->Option (Nat×Nat)):∀(parts:List (Nat×Operand)) (ps:List (Nat×Nat×Operand)) (cs hu:eb) (bK:Array Value),
 Eg d parts ps->qQ (eX s.aI) cs ps=some hu->tK (g2 g w s.bC) cs bK->
 ∃e,Instr.fill d bK (parts.map λp=>(p.1,a.eval p.2))=some e/\tK (g2 g w s.bC) hu e
 |[],[],cs,hu,bK,_,b,j=>by simp only[qQ,dN]at b;subst b;exact⟨bK,rfl,j⟩
 |[],_::_,_,_,_,c,_,_=>c.elim
 |(_,_)::_,[],_,_,_,c,_,_=>c.elim
 |(i,x)::r,(off,m,y)::q,cs,hu,bK,c,b,j=>by obtain⟨l,rfl,t,u⟩:=c;simp only[qQ]at b;split at b;rename_i new z;split at b;rename_i A;obtain⟨C,D⟩:=A;obtain⟨k,E⟩:=(h.ga t).cells z;have F:=j.put (vs:=(a.eval x).cells.toList) (off:=off) k (by omega) E;obtain⟨e,G,H⟩:=cL.fill h d r q _ hu _ u b F;refine⟨e,?_,H⟩;simp only[hN];rw[Z8 d bK i off m (a.eval x) _ l (by simpa[C] using k) (by rw[j.1];exact D)];exact G;simp at b;simp at b
theorem adT{α b:Type}(f:α->Sem b)(r:α->b):∀l:List α,(∀x∈l,(f x).run P w= .ok (r x) w)->(l.mapM f).run P w= .ok (l.map r) w
 |[],_=>by simp
 |x::xs,h=>by simp only[List.mapM_cons,fy,h x (by simp),fU,adT f r xs (λy c=>h y (by simp[c])),g7,hN]
theorem avB{α b:Type}(f:α->Sem b)(r:α->b)(l:Array α)(h:∀x∈l.toList,(f x).run P w= .ok (r x) w):(l.mapM f).run P w= .ok (l.map r) w:=by
 have c:=adT (P:=P) (w:=w) f r l.toList h;rw[Array.mapM_eq_mapM_toList];have d:(Functor.map List.toArray (l.toList.mapM f):Sem (Array b)).run P w=((l.toList.mapM f).run P w).andThen λx w'=> .ok x.toArray w':=by rw[map_eq_pure_bind,fy];rfl
 rw[d,c];simp only[fU,Result.ok.injEq,and_true];apply yL;simp
theorem av4{zero:List Value}{ps:List (Nat×Nat×Operand)}:iL gl ph n B O g s a w P o K Q bs (.build zero ps):=by
 intro p us h hd L C D;obtain⟨t,parts,sz,ho,⟨i,z,hi,E,M,_,_,N⟩,S⟩:=L;simp only[c9,jG,h4]at C;obtain⟨cs,F,rfl,rfl⟩:=C;have G:tK (g2 g w s.bC) (zero.map aT.bo) z.cells:=by have:=tK.zero (R:=g2 g w s.bC) (λv T=> .inl (.bo T)) N;rw[<-M]at this ⊢;simpa using this
 have H:∀bK:Array Value,tK (g2 g w s.bC) cs bK->dZ g w s.bC (.agg cs) (.agg bK):=by
  intro bK c;have e:Value.agg bK=Value.agg bK.toList.toArray:=by simp
  rw[e];refine .inr (.inr (.inl ⟨cs,bK.toList,rfl,rfl,by simp[c.1],λj q u V b=>?_⟩));obtain⟨W,X,Y,Z⟩:=c.2 j q V;have:W=u:=by rw[AV]at b;rw[X]at b;exact l2 b
  subst this;exact⟨Y,Z⟩
 have I:(parts.map λ(x:Nat×Operand)=>(x.1,a.eval x.2)).toList=parts.toList.map λp=>(p.1,a.eval p.2):=by simp
 rcases S with⟨d,b,J,y⟩|⟨m,e,a5,b,al,y⟩;obtain⟨l,A,c⟩:=h.fill _ parts.toList ps _ cs _ y F G;refine g6 h hd (v:= .agg l) ?_ (H l c) D;have hm:(d.mapM λf=>(do pure (f.offset,<-sizeOf f.type):Sem (Nat×Nat))).run P w= .ok (d.map λf=>(f.offset,((P.info? f.type).map (·.size)).getD 0)) w:=by refine avB _ _ d (λf ar=>?_);obtain⟨k,a1⟩:=yM.1 ar;obtain⟨a2,r⟩:=Option.isSome_iff_exists.1 (J k f (by simpa using a1));simp only[fy,run_sizeOf r,fU,g7,r,jH,Option.getD_some]
 have a3:(λk:Nat=>(d.map λ(f:Field)=>(f.offset,((P.info? f.type).map (·.size)).getD 0))[k]?)= λk=>(d[k]?).bind λ(f:Field)=>(P.info? f.type).map λi=>(f.offset,i.size):=by
  funext k;simp only[Array.getElem?_map];cases a4:d[k]? with
  |none=>rfl
  |some f=>obtain⟨a2,r⟩:=Option.isSome_iff_exists.1 (J k f a4);simp[r]
 simp only[execOp,ho,Instr.build,fy,HC hi E,fU,i7 b,hm,I];simp only[a3,A,g7,fU];obtain⟨l,A,c⟩:=h.fill _ parts.toList ps _ cs _ y F G;refine g6 h hd (v:= .agg l) ?_ (H l c) D;simp only[execOp,ho,Instr.build,fy,HC hi E,fU,i7 b,run_sizeOf al,I,A,g7]
end
end
section
variable{sz:Nat}{es:l7}
section
variable{P:Program}{n B bs:Nat}{O:Nat->Prop}{gl:eh}{ph:cx×cT×World×List Deferred}{g:cx}{s:cK}{a:Act}{w w':World}{o:Oper}{K:Act->World->Prop}{Q:Exit->Act->World->Prop}
def nF(R:aT->Value->Prop)(sz:Nat)(es:l7)(bK:Array Value):Prop:=
 (∀(i:Nat) (cs:eb),es[i]? =some cs->cs.length=sz)/\
 ∀(i j:Nat) (cs:eb) (p:aT),es[i]? =some cs->cs[j]? =some p->∃u,bK[i*sz+j]? =some u/\p.iN=true/\R p u
theorem cL.arN(h:cL gl ph n B O g s a w)(d b e sz:Nat)(es:l7)(bL:Bool)(bK:Array Value)(c:w'.heap=w.heap.push (.cells bK e (0,0)))(l:bK.size=b*sz)(q:es.length<=b)(r:b<=maxLen)
 (k:nF (fM g.af w) sz es bK):cL gl ph n B O (g.new w d b) ⟨s.aI,dk s.bC d (.aV ((s.bC d).cH+1) e sz es bL)⟩ a w':=by
 refine h.new d b (.aV ((s.bC d).cH+1) e sz es bL) (Nat.lt_succ_self _) c ⟨bK,?_,?_,?_,?_,k.1,λi j cs p hi t=>?_,λ_=>?_,?_⟩;simp only[cx.new,jc];exact Rs c;simp only[cx.new,jc];exact l;simp only[cx.new,jc];exact q;simp only[cx.new,jc];exact r;obtain⟨u,x,y,z⟩:=k.2 i j cs p hi t;exact⟨u,x,y,z.mono (gA.push g c)⟩;simp[cx.new,dk];simp[cx.new,dk]
theorem AA(h:cL gl ph n B O g s a w)(hd:∀t,o.dst=some t->t<n)(k b e sz:Nat)(es:l7)(bL:Bool)(bK:Array Value)
 (l:(execOp a.eval o).run P w= .ok (.value (.slice (some ⟨w.heap.size,0,none⟩) es.length b)) w')(c:w'.heap=w.heap.push (.cells bK e (0,0)))(ho:w'.os=w.os)(p:w'.tape=w.tape)(q:w'.output=w.output)
 (r:bK.size=b*sz)(d:es.length<=b)(i:b<=maxLen)(u:nF (fM g.af w) sz es bK)
 (x:qD gl ph n B O g w ⟨put s.aI o.dst (.aV k ((s.bC k).cH+1) 0 es.length),dk s.bC k (.aV ((s.bC k).cH+1) e sz es bL)⟩ K):o.wp P a w K Q:=by
 have y:=h.arN k b e sz es bL bK c r d i u;refine AJ l (x _ _ _ (y.put o.dst hd (.inr (.inl (.inr ⟨by simp[dk,Obj.cH],_,_,_,rfl,d,i,λe' z ea Nd A=>?_⟩)))) (eM.push h c ho p q));have j:dk s.bC k (.aV ((s.bC k).cH+1) e sz es bL) k= .aV ((s.bC k).cH+1) e' z ea Nd:=A;rw[jc]at j;cases j;simp[cx.new,dk]
theorem ark(z:Array Value)(m k:Nat)(b:k<m):(madeCells z m)[k]? =some (z[k%z.size]!):=by simp[madeCells,b]
theorem awp{e bytes:Nat}{zero:List Value}{l c:Operand}:iL gl ph n B O g s a w P o K Q bs (.p8 e sz bytes zero l c):=by
 intro p us h hd I b J;obtain⟨t,i',ho,_,L,⟨i,z,hi,M,u,A,C,N⟩,D,R,a5,S,T⟩:=I;have V:i'=i:=by rw[hi]at D;exact(l2 D).symm
 subst V;have el:=h.ga S;have E:=h.ga T;simp only[c9]at b;split at b;rename_i x y W X;rw[W]at el;rw[X]at E;split at b;rename_i Y;obtain⟨Z,al,h2,h3⟩:=Y;cases b;have ar:=run_make (P:=P) w t e i' z L hi M .i64 .i64 x y Z al (by rw[R,Int.mul_comm];omega) (by omega);have a1:z.cells.size=sz:=by rw[<-C,<-u];simp
 have a2:(List.replicate x.toNat (zero.map aT.bo)).length=x.toNat:=by simp
 refine AA h hd (bs+o.dst.getD 0) y.toNat e sz (List.replicate x.toNat (zero.map aT.bo)) true (madeCells z.cells (y.toNat*i'.size)) (w':=w.alloc (.cells (madeCells z.cells (y.toNat*i'.size)) e)) ?_ rfl rfl rfl rfl
  (by rw[size_madeCells,A]) (by simp;omega) (by simp only[maxLen];omega) ⟨λk cs d=>?_,λk j cs q d F=>?_⟩ ?_
 rw[a2];simp only[execOp,ho,el.fY.1,E.fY.1,fy,ar,fU,g7];have:=eH d;simp at this;rw[this.2];simpa using C;have G:=eH d;simp at G;obtain⟨_,rfl⟩:=G;have bd:k<x.toNat:=by have:=(g8.1 d).1;simpa using this
 simp only[lx,jG]at F;obtain⟨v,r,rfl⟩:=F;have a3:j<sz:=by have:=(g8.1 r).1;omega
 have H:iS v=true:=kg.1 N v (eH r);have a4:k*sz+j<y.toNat*i'.size:=by rw[A];have:=jP sz (show k+1<=y.toNat by omega);rw[iT,ov]at this;omega
 refine⟨v,?_,H,.bo H⟩;rw[ark _ _ _ a4,a1,su,Im,qx a3];have:z.cells[j]? =some v:=by rw[<-u]at r;simpa using r
 simp[getElem!_def,this];simpa[fE] using J;simp at b;simp at b
theorem cL.aee(h:cL gl ph n B O g s a w){p:aT}{v:Value}(e:dZ g w s.bC p v)(c:mK s.bC sz p=some es):
 (v= .slice none 0 0/\es=[])\/∃b o' l,v= .slice (some ⟨b,o',none⟩) es.length l/\(∀(i:Nat) (cs:eb),es[i]? =some cs->cs.length=sz)/\
  ∀(i j:Nat) (cs:eb) (q:aT),es[i]? =some cs->cs[j]? =some q->∃u,w.cell? ⟨b,o'+(i*sz+j),none⟩=some u/\q.iN=true/\fM g.af w q u:=by
 unfold mK at c;split at c;cases c;exact .inl ⟨e.fY.1,rfl⟩;split at c;rename_i z;subst z;cases c;cases e.x7 with
 |aN R S T V t A C D E=>exact .inr ⟨_,_,_,rfl,A,λi j cs q hi d=>⟨_,C i j cs q hi d,D i j cs q hi d,E i j cs q hi d⟩⟩
 simp at c;rename_i k bZ off len;split at c;rename_i W e' X ea bL x;split at c;rename_i t;obtain⟨rfl,rfl,Y⟩:=t;cases c;obtain⟨_,b,o',l,rfl,Z,h2,F⟩:=e.kz (by simp[aT.key,aT.cJ]);obtain⟨f1,f2,f3,f4⟩:=F _ _ _ _ x;have y:=h.h1 k;rw[x]at y;obtain⟨bK,G,al,eE,eV,hM,i4,mm,mn⟩:=y;have H:((ea.drop off).take len).length=len:=by simp;omega
 have r:∀(i:Nat) (cs:eb),((ea.drop off).take len)[i]? =some cs->ea[off+i]? =some cs/\i<len:=by intro i cs hi;rw[nz]at hi;split at hi;rename_i I;rw[u9]at hi;exact⟨hi,I⟩;cases hi
 refine .inr ⟨b,o',l,by rw[H],λi cs hi=>hM _ _ (r i cs hi).1,λi j cs q hi d=>?_⟩;obtain⟨u,J,L,M⟩:=i4 (off+i) j cs q (r i cs hi).1 d;have ar:=(r i cs hi).2;have N:=f3 (.inl (by omega));refine⟨u,?_,L,M⟩;rw[f2,N,cell_of_heap G,<-J];congr 1;rw[iT];omega;simp at c;simp at c;simp at c
theorem anw{i j:Nat}(h:j<sz):(i*sz+j)/sz=i/\(i*sz+j) %sz=j:=by
 have b:0<sz:=by omega
 constructor;rw[su,Il b,DX h];rfl;rw[su,Im,qx h]
theorem YR{b o':Nat}{R:aT->Value->Prop}(p:∀(i:Nat) (cs:eb),es[i]? =some cs->cs.length=sz)
 (r:∀(i j:Nat) (cs:eb) (q:aT),es[i]? =some cs->cs[j]? =some q->∃u,w.cell? ⟨b,o'+(i*sz+j),none⟩=some u/\q.iN=true/\R q u):
 ∃hz:List Value,hz.length=es.length*sz/\(∀(j:Nat) (u:Value),hz[j]? =some u->w.cell? ⟨b,o'+j,none⟩=some u)/\
  ∀(i j:Nat) (cs:eb) (q:aT),es[i]? =some cs->cs[j]? =some q->∃u,hz[i*sz+j]? =some u/\q.iN=true/\R q u:=by
 have z:∀k,k<es.length*sz->∃u,w.cell? ⟨b,o'+k,none⟩=some u:=by
  intro k c
  have t:0<sz:=by rcases Ij sz with h|h;·subst h;simp at c
                  ·exact h
  have hi:k/sz<es.length:=by rw[Nat.div_lt_iff_lt_mul t];exact c
  have l:k%sz<sz:=u5 _ t;have x:=fo hi;have E:=p _ _ x;obtain⟨u,d,_⟩:=r (k/sz) (k%sz) _ _ x (fo (by omega));exact⟨u,by rw[<-d];congr 2;rw[su,Nat.div_add_mod]⟩
 refine⟨(List.range (es.length*sz)).map λk=>(w.cell? ⟨b,o'+k,none⟩).getD undef,by simp,λj u y=>?_,λi j cs q hi l=>?_⟩;simp only[lx,jG]at y;obtain⟨k,c,rfl⟩:=y;have e:j<es.length*sz:=by have:=(g8.1 c).1;simpa using this
 have:k=j:=by rw[Ii e]at c;exact(l2 c).symm
 subst this;obtain⟨u,d⟩:=z k e;simp[d];obtain⟨u,d,A,C⟩:=r i j cs q hi l;have D:i<es.length:=(g8.1 hi).1;have F:j<sz:=by have:=(g8.1 l).1;have:=p i cs hi;omega
 have e:i*sz+j<es.length*sz:=by have:=jP sz (show i+1<=es.length from D);rw[iT,ov]at this;omega
 refine⟨u,?_,A,C⟩;simp[Ii e,d]
end
end
section
variable{ob:cT}{sz:Nat}{es:l7}
section
variable{P:Program}{n B bs:Nat}{O:Nat->Prop}{gl:eh}{ph:cx×cT×World×List Deferred}{g:cx}{s:cK}{a:Act}{w w':World}{o:Oper}{K:Act->World->Prop}{Q:Exit->Act->World->Prop}
theorem cL.Z0(h:cL gl ph n B O g s a w)(k:Nat)(x:Obj)(bK:Array Value)(d:(s.bC k).gg)(u:gA g.af w g.af (w.setRow (g.cr k) bK))
 (y:gb g s.bC g (dk s.bC k x))(z:l5 g (w.setRow (g.cr k) bK) (dk s.bC k x) k x):
 cL gl ph n B O g ⟨s.aI,dk s.bC k x⟩ a (w.setRow (g.cr k) bK)/\eM B O g.af w g.af (w.setRow (g.cr k) bK):=by
 obtain⟨A,C,D,E⟩:=HD w (g.cr k) bK;have j:∀b,b≠g.cr k->(w.setRow (g.cr k) bK).heap[b]? =w.heap[b]? :=λb l=>DL w (g.cr k) b bK (λe=>l (by simpa using e));refine⟨h.v3 (dk s.bC k x) (· =k) u y (λc F=>h9 _ _ F) (λc i p=>?_) (λc i p=>?_),⟨A,C,D,by omega,λb l G=>j b ?_,λ_ _ _=>rfl⟩⟩;exact⟨rfl,rfl,rfl,j _ (λe=>i (h.inj c k p d e))⟩;subst i;refine⟨by rw[jc];exact z,(h.hP c d).1,by rw[E];exact(h.hP c d).2,λH q r=>?_⟩;rw[h9 _ _ q]at r;exactλe=>q (h.inj H c r d e);intro e;subst e;rcases(h.hP k d).1 with t|t;omega;exact G t
theorem gb.Yv(g:cx)(k:Nat)(x:Obj)(c:x.cH=(ob k).cH+1):gb g ob g (dk ob k x):=by intro h;by_cases d:h=k;subst d;rw[jc];refine⟨by omega,λcs b=>?_,λe sz es bL b=>?_,λes b=>?_⟩;rw[b]at c;simp[Obj.cH]at c;rw[b]at c;simp[Obj.cH]at c;rw[b]at c;simp[Obj.cH]at c;rw[h9 _ _ d];exact⟨dn _,λcs b=>⟨⟨cs,b⟩,rfl⟩,λ_ _ es bL b=>⟨⟨es,bL,b,dn _⟩,rfl,rfl⟩,λes b=>⟨⟨es,b⟩,rfl⟩⟩
theorem nF.append{R:aT->Value->Prop}{len:Nat}{ys:l7}{xs hz:List Value}{tl:List Value}(l:∀(i:Nat) (cs:eb),es[i]? =some cs->cs.length=sz)(z:len<=es.length)(q:xs.length=len*sz)
 (r:∀(i j:Nat) (cs:eb) (p:aT),i<len->es[i]? =some cs->cs[j]? =some p->∃u,xs[i*sz+j]? =some u/\p.iN=true/\R p u)
 (t:∀(i:Nat) (cs:eb),ys[i]? =some cs->cs.length=sz)
 (x:∀(i j:Nat) (cs:eb) (p:aT),ys[i]? =some cs->cs[j]? =some p->∃u,hz[i*sz+j]? =some u/\p.iN=true/\R p u):
 nF R sz (es.take len++ys) (xs++hz++tl).toArray:=by
 have h:(es.take len).length=len:=by simp;omega
 refine⟨λi cs hi=>?_,λi j cs p hi k=>?_⟩;rw[Ig]at hi;split at hi;rw[nz]at hi;split at hi;exact l i cs hi;cases hi;exact t _ cs hi;rw[Ig]at hi;rw[DO,DT];split at hi;rename_i b;rw[h]at b;rw[nz,dr b]at hi;obtain⟨u,c,d,e⟩:=r i j cs p b hi k;refine⟨u,?_,d,e⟩;rw[ve ((g8.1 c).1)];exact c;rename_i b;rw[h]at b hi;obtain⟨u,c,d,e⟩:=x (i-len) j cs p hi k;refine⟨u,?_,d,e⟩;have y:i*sz+j=len*sz+((i-len)*sz+j):=by rw[<-rp,<-iT];congr 2;omega
 rw[y,wv (by omega),q,Nat.add_sub_cancel_left,ve ((g8.1 c).1)];exact c
theorem fM.sh{c:Nat->Nat}{q:aT}{u:Value}(b:q.iN=true)(h:fM c w q u):u.oneCell'=true:=
 g2.sh (g:=⟨c,λ_=>0,λ_=>0⟩) (ob:=λ_=> .aF 0) b (.inl h)
theorem cL.gO(h:cL gl ph n B O g s a w){x:Operand}(E:c6 x=true){sz:Nat}{ys:l7}(F:mK s.bC sz (eX s.aI x)=some ys):
 (a.eval x= .slice none 0 0/\ys=[])\/∃(r:Addr) (c:Nat) (hz:List Value),a.eval x= .slice (some r) ys.length c/\hz.length=ys.length*sz/\
  (∀(j:Nat) (u:Value),hz[j]? =some u->w.cell? (r.add j)=some u)/\(∀u:Value,u∈hz->u.oneCell'=true)/\(∀(i:Nat) (cs:eb),ys[i]? =some cs->cs.length=sz)/\
  ∀(i j:Nat) (cs:eb) (q:aT),ys[i]? =some cs->cs[j]? =some q->∃u,hz[i*sz+j]? =some u/\q.iN=true/\fM g.af w q u:=by
 rcases h.aee (h.ga E) F with d|⟨b,o',c,d,e,G⟩;exact .inl d;obtain⟨hz,H,I,t⟩:=YR (R:=fM g.af w) e G;refine .inr ⟨⟨b,o',none⟩,c,hz,d,H,λj u l=>by rw[add_lit];exact I j u l,λu l=>?_,e,t⟩;obtain⟨k,y⟩:=yM.1 l;have z:k<ys.length*sz:=by have:=(g8.1 y).1;omega
 have A:0<sz:=by rcases Ij sz with p|p
                 ·subst p;simp at z
                 exact p
 have hi:k/sz<ys.length:=by rw[Nat.div_lt_iff_lt_mul A];exact z
 have N:k%sz<sz:=u5 _ A;have C:=fo hi;have S:=e _ _ C;obtain⟨T,D,J,L⟩:=t (k/sz) (k%sz) _ _ C (fo (by omega));have M:k/sz*sz+k%sz=k:=by rw[su,Nat.div_add_mod]
 rw[M,y]at D;cases D;exact L.sh J
theorem H9(z:Array Value)(m:Nat):(Builtin.zeroCells z m).size=m*z.size:=size_zeroCells z m
theorem alM{g:cx}{w:World}{v:Value}(h:dZ g w ob (.bD [.undef,.aN sz es]) v):
 ∃b:Addr,v= .slice (some b) es.length es.length/\fM g.af w (.aN sz es) v:=by
 rcases h with h|h|⟨cs,vs,h,_⟩|⟨ps,vs,c,e,d,i⟩|⟨j,ea,b,c,e,d⟩;cases h;rcases h with h|h;cases h;cases h;cases h;cases c;cases vs with
 |nil=>cases d
 |cons u r=>rcases i 0 .undef u rfl rfl with h|⟨cs,_,h,_⟩;rcases h with h|h;cases h;cases h;cases h
 cases c;exact⟨b,e,d⟩
theorem avW{e bytes:Nat}{dd x:Operand}{bL:Bool}:iL gl ph n B O g s a w P o K Q bs (.append e sz bytes dd x bL):=by
 intro p us h hd hr y Z;obtain⟨t,i,ho,hs,G,hi,cY,⟨z,c0,c1⟩,F,hw,fn,hx⟩:=hr;have L:=h.ga fn;have M:∀(v:Value) (c2:World),(Builtin.append_ #[t,t] o.type #[a.eval dd,a.eval x]).run P w= .ok v c2->(execOp a.eval o).run P w= .ok (.value v) c2:=by intro v c2 D;simp only[execOp,ho,resolve,invoke,builtin,fy,g7,fU,DW,hN,ny,D]
 have c3:∀(H al:Nat),H<=1099511627776->H<=grownCap w H al e/\grownCap w H al e<=maxLen:=λH al hn=>
  ⟨grownCap_ge w H al e,grownCap_le_maxLen w H al e (by simp only[maxLen];omega)⟩
 simp only[c9]at y;split at y;rename_i ys ar N;rw[ar]at L;have E:=L.fY.1;split at y;rename_i a5;obtain⟨ds,bd⟩:=a5;split at y;rename_i I;cases y;have fp:ys=[]:=List.eq_nil_of_length_eq_zero I;subst fp;refine g6 h hd (v:= .slice none 0 0) (M _ _ ?_) (.bo rfl) Z;rcases h.gO hx N with⟨l,_⟩|⟨S,bx,hz,l,_⟩;rw[E,l];simp[Builtin.append_,i7 G,sizeOf,typeInfo,hi,Builtin.lenOf,Builtin.firstCells];rw[E,l];simp[Builtin.append_,i7 G,sizeOf,typeInfo,hi,Builtin.lenOf,Builtin.firstCells,loadCells,loadCellsFrom];rename_i I;cases y;rcases h.gO hx N with⟨_,l⟩|⟨S,bx,hz,l,A,T,dt,V,W⟩;subst l;simp at I;have C:=run_append_nil (P:=P) w t o.type e i z G hi c0 S ys.length bx hz (by rw[F];exact A) T (by omega) (by omega) (by rw[cY];omega);obtain⟨c8,cX⟩:=c3 ys.length 0 bd;rw[<-E,<-l]at C;refine AA h hd (bs+o.dst.getD 0) (grownCap w ys.length 0 e) e sz ys bL _ (M _ _ C) rfl rfl rfl rfl ?_ c8 cX ?_ (by simpa[fE] using Z);rw[ww,H9,vb,A,c1,<-iT];congr 1;omega;have:=nF.append (R:=fM g.af w) (sz:=sz) (len:=0) (es:=[]) (ys:=ys) (xs:=[]) (hz:=hz) (tl:=(Builtin.zeroCells z.cells (grownCap w ys.length 0 e-ys.length)).toList) (by simp) (by simp) (by simp) (by simp) V W;have e:(hz.toArray++Builtin.zeroCells z.cells (grownCap w ys.length 0 e-ys.length))=(([]:List Value)++hz++(Builtin.zeroCells z.cells (grownCap w ys.length 0 e-ys.length)).toList).toArray:=by apply yL;simp
 rw[e];exact this;simp at y;rename_i k bZ len ys ar N;rw[ar]at L;obtain⟨hy,b,o',bx,E,c4,fr,fs⟩:=L.kz (by simp[aT.key,aT.cJ]);split at y;rename_i hA e' d es r b2;split at y;rename_i a5;obtain⟨rfl,rfl,rfl,dz,ds,bd⟩:=a5;cases y;obtain⟨f1,f2,f3,f4⟩:=fs _ _ _ _ b2;have ft:o'=0:=by rw[f3 (.inr rfl)];simp
 have fv:bx=g.cap k:=f4 rfl;subst f2;subst ft;subst fv;have ee:=h.h1 k;rw[b2]at ee;obtain⟨bK,X,c5,eE,eV,hM,i4,mm,mn⟩:=ee;have ge:(s.bC k).gg:=by rw[b2];trivial
 have em:len<=es.length:=by rcases dz with hl|⟨_,hl⟩<;>omega
 have en:(s.bC k).cH=bZ:=by rw[b2];rfl
 let xs:List Value:=bK.toList.take (len*d);have hB:len*d<=bK.size:=by rw[c5];exact jP _ c4
 have cc:xs.length=len*d:=by simp[xs];omega
 have eq:∀(i' j:Nat) (cs:eb) (q:aT),i'<len->es[i']? =some cs->cs[j]? =some q->∃u,xs[i'*d+j]? =some u/\q.iN=true/\fM g.af w q u:=by
  intro i' j cs q go b1 cn;obtain⟨u,J,q2,q3⟩:=i4 i' j cs q b1 cn;refine⟨u,?_,q2,q3⟩;have hD:j<d:=by have:=(g8.1 cn).1;have:=hM i' cs b1;omega
  have:=jP d (show i'+1<=len from go);rw[iT,ov]at this;simp only[xs];rw[nz,dr (by omega)];simpa using J
 have is:g.af (g.cr k)<=len*d:=by rcases dz with hl|⟨gt,_⟩;rw[hl];exact mn;rw[mm gt];omega
 have inplace:∀(hz:List Value),hz.length=ys.length*d->len+ys.length<=g.cap k->(∀(i:Nat) (cs:eb),ys[i]? =some cs->cs.length=d)->
  (∀(i j:Nat) (cs:eb) (q:aT),ys[i]? =some cs->cs[j]? =some q->∃u,hz[i*d+j]? =some u/\q.iN=true/\fM g.af w q u)->
  (execOp a.eval o).run P w= .ok (.value (.slice (some ⟨g.cr k,0,none⟩) (len+ys.length) (g.cap k))) (w.setRow (g.cr k) (bK.toList.take (len*d)++hz++bK.toList.drop (len*d+hz.length)).toArray)->o.wp P a w K Q:=by
  intro hz A Y V W C;have er:gA g.af w g.af (w.setRow (g.cr k) (bK.toList.take (len*d)++hz++bK.toList.drop (len*d+hz.length)).toArray):=by obtain⟨a1,a2,a3,a4⟩:=HD w (g.cr k) (bK.toList.take (len*d)++hz++bK.toList.drop (len*d+hz.length)).toArray;refine⟨by omega,λ_ _=>dn _,λb' i' hb b1=>?_⟩;by_cases ev:b'=g.cr k;subst ev;rw[cell_of_heap (AP w (g.cr k) bK _ e' (0,0) X),cell_of_heap X,DO,DT,ve (by simp;omega),nz,dr (by omega)];simp;simp only[World.cell?,DL w (g.cr k) b' _ (λe=>ev (by simpa using e))]
  have gw:=gb.Yv (ob:=s.bC) g k (.aV (bZ+1) e' d (es.take len++ys) r) (by rw[en];rfl);have i8:len*d+ys.length*d<=bK.size:=by rw[c5,<-iT];exact jP _ Y
  have ex:=nF.append (R:=fM g.af w) (tl:=bK.toList.drop (len*d+hz.length)) hM em cc eq V W;have e0:=h.Z0 k (.aV (bZ+1) e' d (es.take len++ys) r) _ ge er gw (by
   refine⟨_,AP w (g.cr k) bK _ e' (0,0) X,?_,?_,eV,ex.1,λi' j cs q b1 cn=>?_,mm,?_⟩;simp;rw[A];omega;simp;omega;obtain⟨u,J,q2,q3⟩:=ex.2 i' j cs q b1 cn;exact⟨u,J,q2,q3.mono er⟩;have:(es.take len++ys).length=len+ys.length:=by simp;omega
   rw[this,iT];omega)
  refine AJ C (Z g _ _ (e0.1.put o.dst hd (.inr (.inl (.inr ⟨by simp[dk,Obj.cH],_,_,_,rfl,Y,fr,λha hc he hf hg=>?_⟩)))) e0.2);have fl:dk s.bC k (.aV (bZ+1) e' d (es.take len++ys) r) k= .aV (bZ+1) ha hc he hf:=hg;rw[jc]at fl;cases fl;refine⟨by simp;omega,rfl,by simp,λ_=>rfl⟩
 rcases h.gO hx N with⟨l,I⟩|⟨S,c,hz,l,A,T,dt,V,W⟩;subst I;refine inplace [] (by simp) (by simpa using c4) (by simp) (by simp) (M _ _ ?_);rw[E,l];simp[Builtin.append_,i7 G,sizeOf,typeInfo,hi,Builtin.lenOf,Builtin.firstCells,c4,storeCells];rw[setRow_self w (g.cr k) bK e' (0,0) X];by_cases Y:len+ys.length<=g.cap k;have C:=run_append_room (P:=P) w t o.type e' i G hi (g.cr k) len (g.cap k) bK X S ys.length c hz (by rw[F];exact A) T dt Y (by rw[F,A,c5,<-iT];exact jP _ Y);rw[F,<-E,<-l]at C;exact inplace hz A Y V W (M _ _ C);have C:=run_append_grow (P:=P) w t o.type e' i z G hi c0 ⟨g.cr k,0,none⟩ len (g.cap k) xs (by rw[F];exact cc)
  (λj v D=>by rw[add_lit,ou,cell_of_heap X];simp only[xs]at D;rw[nz]at D;split at D;simpa using D;cases D) S ys.length c hz (by rw[F];exact A) T (by omega) (by omega) (growslice_fits (by omega) (by rw[cY];omega))
 rw[<-E,<-l]at C;obtain⟨c8,cX⟩:=c3 (len+ys.length) (g.cap k) bd;have cu:(es.take len++ys).length=len+ys.length:=by simp;omega
 have hh:qD gl ph n B O g w ⟨put s.aI o.dst (.aV k ((s.bC k).cH+1) 0 (es.take len++ys).length),dk s.bC k (.aV ((s.bC k).cH+1) e' d (es.take len++ys) r)⟩ K:=by rw[en,cu];simpa[fE] using Z
 refine AA (w':=w.drew.alloc (.cells (xs.toArray++hz.toArray++Builtin.zeroCells z.cells (grownCap w (len+ys.length) (g.cap k) e'-(len+ys.length))) e')) h hd k (grownCap w (len+ys.length) (g.cap k) e') e' d (es.take len++ys) r _ (by rw[cu];exact M _ _ C) rfl rfl rfl rfl ?_ (by omega) cX ?_ hh;rw[ww,ww,H9,vb,vb,cc,A,c1,<-iT,<-iT];congr 1;omega;have:=nF.append (R:=fM g.af w) (tl:=(Builtin.zeroCells z.cells (grownCap w (len+ys.length) (g.cap k) e'-(len+ys.length))).toList) hM em cc eq V W;have e:(xs.toArray++hz.toArray++Builtin.zeroCells z.cells (grownCap w (len+ys.length) (g.cap k) e'-(len+ys.length)))=(xs++hz++(Builtin.zeroCells z.cells (grownCap w (len+ys.length) (g.cap k) e'-(len+ys.length))).toList).toArray:=by apply yL;simp
 rw[e];exact this;simp at y;simp at y;rename_i d es ys ar N;rw[ar]at L;obtain⟨S,E,D⟩:=alM L;split at y;rename_i a5;obtain⟨rfl,hm,ds,bd⟩:=a5;cases y;rcases h.aee (p:= .aN d es) (.inr (.inl (.inl D))) (es:=es) (sz:=d) (by simp[mK]) with⟨l,_⟩|⟨b,o',bx,l,A,T⟩;rw[E]at l;cases l;rw[E]at l;cases l;obtain⟨xs,J,q2,q3⟩:=YR (R:=fM g.af w) A T;rcases h.gO hx N with⟨_,I⟩|⟨hq,c,hz,br,dM,eB,ku,uK,uL⟩;subst I;simp at hm;have C:=run_append_grow (P:=P) w t o.type e i z G hi c0 ⟨b,o',none⟩ es.length es.length xs (by rw[F];exact J)
  (λj v D=>by rw[add_lit];exact q2 j v D) hq ys.length c hz (by rw[F];exact dM) eB (by omega) (by omega) (growslice_fits (by omega) (by rw[cY];omega))
 rw[<-E,<-br]at C;obtain⟨c8,cX⟩:=c3 (es.length+ys.length) es.length bd;have cu:(es++ys).length=es.length+ys.length:=by simp
 refine AA (w':=w.drew.alloc (.cells (xs.toArray++hz.toArray++Builtin.zeroCells z.cells (grownCap w (es.length+ys.length) es.length e-(es.length+ys.length))) e)) h hd (bs+o.dst.getD 0) (grownCap w (es.length+ys.length) es.length e) e d (es++ys) bL _ (by rw[cu];exact M _ _ C) rfl rfl rfl rfl ?_ (by omega) cX ?_ (by simpa[fE] using Z);rw[ww,ww,H9,vb,vb,J,dM,c1,<-iT,<-iT];congr 1;omega;have:=nF.append (R:=fM g.af w) (sz:=d) (len:=es.length) (es:=es) (ys:=ys) (xs:=xs) (hz:=hz) (tl:=(Builtin.zeroCells z.cells (grownCap w (es.length+ys.length) es.length e-(es.length+ys.length))).toList) A (dn _) J (λi j cs p _=>q3 i j cs p) uK uL;rw[vd]at this;have e:(xs.toArray++hz.toArray++Builtin.zeroCells z.cells (grownCap w (es.length+ys.length) es.length e-(es.length+ys.length)))=(xs++hz++(Builtin.zeroCells z.cells (grownCap w (es.length+ys.length) es.length e-(es.length+ys.length))).toList).toArray:=by apply yL;simp
 rw[e];exact this;simp at y;simp at y
end
end
section
variable{P:Program}{n B bs:Nat}{O:Nat->Prop}{gl:eh}{ph:cx×cT×World×List Deferred}{g:cx}{s:cK}{a:Act}{w w':World}{o:Oper}{K:Act->World->Prop}{Q:Exit->Act->World->Prop}
theorem HM(b:ByteArray):(mX b).length=b.size:=by simp[mX]
theorem aem{c:Nat->Nat}{w:World}(b:ByteArray):(∀(i:Nat) (cs:eb),(mX b)[i]? =some cs->cs.length=1)/\
 ∀(i j:Nat) (cs:eb) (q:aT),(mX b)[i]? =some cs->cs[j]? =some q->∃u,(Lib.strCells b)[i*1+j]? =some u/\q.iN=true/\fM c w q u:=by
 have h:∀(i:Nat) (cs:eb),(mX b)[i]? =some cs->∃y,b.data.toList[i]? =some y/\cs=[.bo (.int .u8 y.toNat)]:=by intro i cs hi;simp only[mX,lx,jG]at hi;obtain⟨y,d,k⟩:=hi;exact⟨y,d,k.symm⟩
 refine⟨λi cs hi=>?_,λi j cs q hi e=>?_⟩;obtain⟨y,_,rfl⟩:=h i cs hi;rfl;obtain⟨y,d,rfl⟩:=h i cs hi;cases j with
 |zero=>simp at e;subst e;refine⟨.int .u8 y.toNat,?_,rfl,.bo rfl⟩;rw[Nat.mul_one,rq,Lib.strCells,lx,d];rfl
 |succ j=>simp at e
theorem run_append_nil_string(w:World)(t u c e:TypeId)(i:TypeInfo)(z:Value)(d:P.underlying t=some (.slice e))(h:P.underlying u=some .string)(hi:P.info? e=some i)(j:i.zero=some z)
 (b:ByteArray)(k:0<b.size)(x:(b.size:Int)<=9223372036854775807)(y:b.size*i.bytes<=281474976710656):
 (Builtin.append_ #[t,u] c #[.slice none 0 0,.string b]).run P w=
  .ok (.slice (some ⟨w.heap.size,0,none⟩) b.size (grownCap w b.size 0 e)) (w.drew.alloc (.cells ((Lib.strCells b).toArray++Builtin.zeroCells z.cells (grownCap w b.size 0 e-b.size)) e)):=by
 have l:b.size≠0:=by omega
 have p:¬(9223372036854775807<(b.size:Int)):=by omega
 have q:¬(281474976710656<Builtin.nextslicecap b.size 0*i.bytes):=by rw[nextslicecap_zero k];omega
 have r:=Lib.run_firstCells_string (P:=P) w.drew i.size b;simp[Builtin.append_,i7 d,i7 h,sizeOf,typeInfo,zeroValue,hi,j,Builtin.lenOf,l,p,q,Question.forced,run_firstCells_none,r,newRow,grownCap]
theorem avX{e bytes:Nat}{b1 x:Operand}{bL:Bool}:iL gl ph n B O g s a w P o K Q bs (.n7 e bytes b1 x bL):=by
 intro p us h hd hr d H;obtain⟨t,I,i,z,ho,hm,J,L,hi,b2,cc,cn,cu,er,hx⟩:=hr;have M:=h.ga er;have N:∀(v:Value) (Y:World),(Builtin.append_ #[t,I] o.type #[a.eval b1,a.eval x]).run P w= .ok v Y->(execOp a.eval o).run P w= .ok (.value v) Y:=by intro v Y y;simp only[execOp,ho,resolve,invoke,builtin,fy,g7,fU,DW,hN,ny,y]
 have cY:∀(A C:Nat),A<=1099511627776->A<=grownCap w A C e/\grownCap w A C e<=maxLen:=λA C hn=>
  ⟨grownCap_ge w A C e,grownCap_le_maxLen w A C e (by simp only[maxLen];omega)⟩
 simp only[c9]at d;split at d;rename_i b Z al;rw[Z]at M;have D:=h.ga hx;rw[al]at D;have E:=M.fY.1;have c0:=D.fY.1;obtain⟨S,T⟩:=aem (c:=g.af) (w:=w) b;split at d;rename_i ar;obtain⟨ev,a5⟩:=ar;split at d;rename_i h0;cases d;refine g6 h hd (v:= .slice none 0 0) (N _ _ ?_) (.bo rfl) H;rw[E,c0];have hf:=Lib.run_firstCells_string (P:=P) w i.size b;simp[Builtin.append_,i7 J,i7 L,sizeOf,typeInfo,hi,Builtin.lenOf,h0,hf];rw[h0]at hf;simp[hf];rename_i h0;cases d;have l:=run_append_nil_string (P:=P) w t I o.type e i z J L hi cc b (by omega) (by omega) (by rw[b2];omega);obtain⟨c8,cX⟩:=cY b.size 0 a5;rw[<-E,<-c0]at l;refine AA (w':=w.drew.alloc (.cells ((Lib.strCells b).toArray++Builtin.zeroCells z.cells (grownCap w b.size 0 e-b.size)) e)) h hd (bs+o.dst.getD 0) (grownCap w b.size 0 e) e 1 (mX b) bL _ (by rw[HM];exact N _ _ l) rfl rfl rfl rfl ?_ (by rw[HM];exact c8) cX ?_ (by rw[HM];simpa[fE] using H);rw[ww,H9,vb,Lib.strCells_length,cn];omega;have:=nF.append (R:=fM g.af w) (sz:=1) (len:=0) (es:=[]) (ys:=mX b) (xs:=[]) (hz:=Lib.strCells b) (tl:=(Builtin.zeroCells z.cells (grownCap w b.size 0 e-b.size)).toList) (by simp) (by simp) (by simp) (by simp) S T;have e:((Lib.strCells b).toArray++Builtin.zeroCells z.cells (grownCap w b.size 0 e-b.size))=(([]:List Value)++Lib.strCells b++(Builtin.zeroCells z.cells (grownCap w b.size 0 e-b.size)).toList).toArray:=by apply yL;simp
 rw[e];exact this;simp at d
 ·rename_i k bZ len b Z al;rw[Z]at M;have D:=h.ga hx;rw[al]at D;have c1:=D.fY.1;obtain⟨S,T⟩:=aem (c:=g.af) (w:=w) b;have hq:=HM b;obtain⟨hs,hw,o',e0,E,fl,fn,fp⟩:=M.kz (by simp[aT.key,aT.cJ]);split at d
  ·rename_i hy e' hA es r V;split at d
   ·rename_i ar;obtain⟨rfl,rfl,rfl,c2,ev,a5⟩:=ar;cases d;obtain⟨f1,f2,f3,f4⟩:=fp _ _ _ _ V;have fr:o'=0:=by first|(rw[f3 (.inr rfl)];done)|(rw[f3 (.inr rfl)];simp)
    have fs:e0=g.cap k:=f4 rfl;subst f2;subst fr;subst fs;have c3:=h.h1 k;rw[V]at c3;obtain⟨bK,F,c4,eE,eV,hM,i4,mm,mn⟩:=c3;have ft:(s.bC k).gg:=by rw[V];trivial
    have c5:len<=es.length:=by rcases c2 with hl|⟨_,hl⟩<;>omega
    have dd:(s.bC k).cH=bZ:=by rw[V];rfl
    let xs:List Value:=bK.toList.take (len*1);have hB:len*1<=bK.size:=by rw[c4];exact jP _ fl
    have W:xs.length=len*1:=by simp only[xs,AY,Array.length_toList];omega
    have ds:∀(i' j:Nat) (cs:eb) (q:aT),i'<len->es[i']? =some cs->cs[j]? =some q->∃u,xs[i'*1+j]? =some u/\q.iN=true/\fM g.af w q u:=by
     intro i' j cs q hD G X;obtain⟨u,bd,q2,q3⟩:=i4 i' j cs q G X;refine⟨u,?_,q2,q3⟩;have h2:j<1:=by have:=(g8.1 X).1;have:=hM i' cs G;omega
     simp only[xs];rw[nz,dr (by omega)];simpa using bd
    have h3:g.af (g.cr k)<=len*1:=by rcases c2 with hl|⟨fv,_⟩;rw[hl];exact mn;rw[mm fv];omega
    by_cases dt:len+b.size<=g.cap k;have ge:len+b.size<=bK.size:=by rw[c4];omega
    have l:=Lib.run_append_room_string (P:=P) w t I o.type e' i J L hi cu (g.cr k) len (g.cap k) bK F b dt ge;rw[<-E,<-c1]at l;have l:=N _ _ l;have is:(Lib.strCells b).length=b.size:=Lib.strCells_length b;have dz:gA g.af w g.af (w.setRow (g.cr k) (bK.toList.take len++Lib.strCells b++bK.toList.drop (len+b.size)).toArray):=by obtain⟨a1,a2,a3,a4⟩:=HD w (g.cr k) (bK.toList.take len++Lib.strCells b++bK.toList.drop (len+b.size)).toArray;refine⟨by omega,λ_ _=>dn _,λb' i' hb G=>?_⟩;by_cases ee:b'=g.cr k;subst ee;rw[cell_of_heap (AP w (g.cr k) bK _ e' (0,0) F),cell_of_heap F,DO,DT,ve (by simp;omega),nz,dr (by omega)];simp;simp only[World.cell?,DL w (g.cr k) b' _ (λe=>ee (by simpa using e))]
    have go:=gb.Yv (ob:=s.bC) g k (.aV (bZ+1) e' 1 (es.take len++mX b) r) (by rw[dd];rfl);have bx:=nF.append (R:=fM g.af w) (tl:=bK.toList.drop (len+b.size)) hM c5 W ds S T;have gt:xs=bK.toList.take len:=by simp only[xs,Nat.mul_one]
    rw[gt]at bx;have em:=h.Z0 k (.aV (bZ+1) e' 1 (es.take len++mX b) r) _ ft dz go (by
     refine⟨_,AP w (g.cr k) bK _ e' (0,0) F,?_,?_,eV,bx.1,λi' j cs q G X=>?_,mm,?_⟩;simp;omega;simp;omega;obtain⟨u,bd,q2,q3⟩:=bx.2 i' j cs q G X;exact⟨u,bd,q2,q3.mono dz⟩;have:(es.take len++mX b).length=len+b.size:=by simp;omega
     rw[this];omega)
    refine AJ l (H g _ _ (em.1.put o.dst hd (.inr (.inl (.inr ⟨by simp[dk,Obj.cH],_,_,_,rfl,dt,fn,λgw ha hc he hg=>?_⟩)))) em.2);have en:dk s.bC k (.aV (bZ+1) e' 1 (es.take len++mX b) r) k= .aV (bZ+1) gw ha hc he:=hg;rw[jc]at en;cases en;refine⟨by simp;omega,rfl,by simp,λ_=>rfl⟩;have l:=Lib.run_append_grow_string (P:=P) w t I o.type e' i z J L hi cc ⟨g.cr k,0,none⟩ len (g.cap k) xs (by rw[cu];exact W)
     (λj v y=>by rw[add_lit,ou,cell_of_heap F];simp only[xs]at y;rw[nz]at y;split at y;simpa using y;cases y) b (by omega) (by omega) (growslice_fits (by omega) (by rw[b2];omega))
    rw[<-E,<-c1]at l;obtain⟨c8,cX⟩:=cY (len+b.size) (g.cap k) a5;have eq:(es.take len++mX b).length=len+b.size:=by simp;omega
    have hh:qD gl ph n B O g w ⟨put s.aI o.dst (.aV k ((s.bC k).cH+1) 0 (es.take len++mX b).length),dk s.bC k (.aV ((s.bC k).cH+1) e' 1 (es.take len++mX b) r)⟩ K:=by rw[dd,eq];simpa[fE] using H
    refine AA (w':=w.drew.alloc (.cells (xs.toArray++(Lib.strCells b).toArray++Builtin.zeroCells z.cells (grownCap w (len+b.size) (g.cap k) e'-(len+b.size))) e')) h hd k (grownCap w (len+b.size) (g.cap k) e') e' 1 (es.take len++mX b) r _ (by rw[eq];exact N _ _ l) rfl rfl rfl rfl ?_ (by omega) cX ?_ hh;rw[ww,ww,H9,vb,vb,W,Lib.strCells_length,cn];omega;have:=nF.append (R:=fM g.af w) (tl:=(Builtin.zeroCells z.cells (grownCap w (len+b.size) (g.cap k) e'-(len+b.size))).toList) hM c5 W ds S T;have e:(xs.toArray++(Lib.strCells b).toArray++Builtin.zeroCells z.cells (grownCap w (len+b.size) (g.cap k) e'-(len+b.size)))=(xs++Lib.strCells b++(Builtin.zeroCells z.cells (grownCap w (len+b.size) (g.cap k) e'-(len+b.size))).toList).toArray:=by apply yL;simp
    rw[e];exact this
   simp at d
  simp at d
 simp at d
end
end Go.Hf
