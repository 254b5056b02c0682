/- The reference's round. -/
import Derived.Test.YtjpcgofidijigaaGreatDoorZSmith
import Derived.Test.YtjpcgofidijigaaGreatDoorZBasI
namespace Go.Proofs.YtjpcgofidijigaaGreatDoor
open Go.RowKit
variable {C R ca cu cv i j n na nu nv t:Nat} {P:Program} {a u v:Option Addr} {f g k:SS->Option (SS×Bool)} {m:List Int} {p q:Int} {res:Option (SS×Bool)} {s:SS} {w w':World}
structure Thr (w:World) (a u v:Option Addr) (na nu nv ca cu cv:Nat) (s:SS):Prop where
 oa:Own w 3 1 a na ca (ints s.1)
 ou:Own w 3 1 u nu cu (ints s.2.1)
 ov:Own w 3 1 v nv cv (ints s.2.2)
 nau: ∀ q,blk a=some q->blk u≠some q
 nav: ∀ q,blk a=some q->blk v≠some q
 nuv: ∀ q,blk u=some q->blk v≠some q
theorem Thr.keep {T:Nat->Prop} (h:Thr w a u v na nu nv ca cu cv s) (hk:Keep T w w') (h1: ∀ g,blk a=some g->T g) (h2: ∀ g,blk u=some g->T g) (h3: ∀ g,blk v=some g->T g):Thr w' a u v na nu nv ca cu cv s:=
 ⟨h.oa.keep hk (fun g hg _=>h1 g hg),h.ou.keep hk (fun g hg _=>h2 g hg),h.ov.keep hk (fun g hg _=>h3 g hg),h.nau,h.nav,h.nuv⟩
theorem Thr.grow (h:Thr w a u v na nu nv ca cu cv s) (hk:Grow w w'):Thr w' a u v na nu nv ca cu cv s:=h.keep hk (fun _ _=>trivial) (fun _ _=>trivial) (fun _ _=>trivial)
theorem Thr.two (h:Thr w a u v na nu nv ca cu cv s):Two w a u na nu ca cu (s.1,s.2.1):=⟨h.oa,h.ou,h.nau⟩
def Md (C R t:Nat) (p:Int) (rest:SS->Option (SS×Bool)) (res:Option (SS×Bool)) (s:SS):Prop:=(Ss C R s/\rest s=res/\cell s.1 C t t=p)\/(res=none/\Mk3 s)
theorem Md.next (h:Md C R t p f res s) (hg:Ss C R s->cell s.1 C t t=p->f s=g s):Md C R t p g res s:=by
 rcases h with ⟨h1,h2,h3⟩|h
 ·exact .inl ⟨h1,by rw[←hg h1 h3];exact h2,h3⟩
 ·exact .inr h
def Zcy (C R t:Nat) (k:SS->Option (SS×Bool)) (i:Nat) (s:SS):Option (SS×Bool):=(Zd2 C R t (R-i) i s).bind k
def Za6 (C R t:Nat) (k:SS->Option (SS×Bool)) (j:Nat) (s:SS):Option (SS×Bool):=(Zd1 C R t (C-j) j s).bind k
def Za5 (C R t:Nat) (s2:SS):Option (SS×Bool):=
 if (ZW s2.1 C R t&&Zap s2.1 C t)=true then (match ZdA s2.1 C R t with
  |some d=>(ZaF C R t (t+1+d) 1 s2).map fun x=>(x,false)
  |none=>some (s2,true)) else some (s2,false)
theorem Znp (hi:i<R) (h:cell s.1 C i t=0):Zcy C R t k i s=Zcy C R t k (i+1) s:=by
 unfold Zcy;rw[show R-i=(R-(i+1))+1 by omega];simp only[Zd2];rw[if_neg (by simp[h])]
theorem ZpN (hi:i<R) (h:cell s.1 C i t≠0):Zcy C R t k i s=(ZaF C R i t (-(cell s.1 C i t/cell s.1 C t t)) s).bind (Zcy C R t k (i+1)):=by
 unfold Zcy;rw[show R-i=(R-(i+1))+1 by omega];simp only[Zd2];rw[if_pos h,Option.bind_assoc]
theorem Zpf:Zcy C R t k R s=k s:=by unfold Zcy;rw[Nat.sub_self];rfl
theorem ZnM (hj:j<C) (h:cell s.1 C t j=0):Za6 C R t k j s=Za6 C R t k (j+1) s:=by
 unfold Za6;rw[show C-j=(C-(j+1))+1 by omega];simp only[Zd1];rw[if_neg (by simp[h])]
theorem ZqH (hj:j<C) (h:cell s.1 C t j≠0):Za6 C R t k j s=(Zbm C R j t (-(cell s.1 C t j/cell s.1 C t t)) s).bind (Za6 C R t k (j+1)):=by
 unfold Za6;rw[show C-j=(C-(j+1))+1 by omega];simp only[Zd1];rw[if_pos h,Option.bind_assoc]
theorem Zpc:Za6 C R t k C s=k s:=by unfold Za6;rw[Nat.sub_self];rfl
theorem Md.addR (hm:Hm3 C R s) (h:Md C R t p f res s) (htC:t<C) (hi:i<R) (hit:i≠t) (hq: -400000000<=q/\q<=400000000) (hf:Ss C R s->cell s.1 C t t=p->f s=(ZaF C R i t q s).bind g):Md C R t p g res (ZgR C R i t q s):=by
 rcases h with ⟨h1,h2,h3⟩|⟨h1,h2⟩
 ·rcases ZlB (i:=i) (p:=t) h1 hi hq with e|⟨e,hk⟩
  ·have h4:=ZdR h1 e;refine .inl ⟨h4.1, ?_, ?_⟩
   ·rw[hf h1 h3,e] at h2;exact h2
   ·rw[h4.2];simp only;rw[Za8 h1.la hi htC,if_neg (fun e=>hit e.symm)];exact h3
  ·exact .inr ⟨by rw[←h2,hf h1 h3,e];rfl,hk⟩
 ·exact .inr ⟨h1,ZoP hm hi h2⟩
theorem Md.addC (hm:Hm3 C R s) (h:Md C R t p f res s) (ht:t<R) (htC:t<C) (hj:j<C) (hjt:j≠t) (hq: -400000000<=q/\q<=400000000) (hf:Ss C R s->cell s.1 C t t=p->f s=(Zbm C R j t q s).bind g):Md C R t p g res (ZhA C R j t q s):=by
 rcases h with ⟨h1,h2,h3⟩|⟨h1,h2⟩
 ·rcases Zls (i:=j) (p:=t) h1 hj hq with e|⟨e,hk⟩
  ·have h4:=ZgC h1 e;refine .inl ⟨h4.1, ?_, ?_⟩
   ·rw[hf h1 h3,e] at h2;exact h2
   ·rw[h4.2];simp only;rw[Zfq ht htC,if_neg (fun e=>hjt e.symm)];exact h3
  ·exact .inr ⟨by rw[←h2,hf h1 h3,e];rfl,hk⟩
 ·exact .inr ⟨h1,Zol hm h2⟩
def Zd4 (m:List Int) (C t:Nat) (n:Nat):Bool:=(List.range n).all fun d=>cell m C (t+1+d) t==0
def Zdq (m:List Int) (C t:Nat) (n:Nat):Bool:=(List.range n).all fun d=>cell m C t (t+1+d)==0
theorem Znh (m:List Int) (C t n:Nat):Zd4 m C t (n+1)=(Zd4 m C t n&&cell m C (t+1+n) t==0):=by unfold Zd4;rw[List.range_succ,List.all_append];simp
theorem Zn8 (m:List Int) (C t n:Nat):Zdq m C t (n+1)=(Zdq m C t n&&cell m C t (t+1+n)==0):=by unfold Zdq;rw[List.range_succ,List.all_append];simp
def Fnd (res:Option (SS×Bool)) (s:SS) (b:Bool):Prop:=res=some (s,b)\/(res=none/\Mk3 s)
theorem Zpi (hi:t<i/\i<R) (hj:t<j/\j<C) (hb: ∀ i',t<i'->i'<i->ZfT m C t i'=false) (h:(cell m C i j).tmod (cell m C t t)≠0):ZdA m C R t=some (i-(t+1)):=by
 unfold ZdA;rw[List.find?_eq_some_iff_append];refine ⟨by rw[show t+1+(i-(t+1))=i by omega];exact Zf3.2 ⟨j,hj.1,hj.2,h⟩,List.range (i-(t+1)),List.range' (i-(t+1)+1) (R-(t+1)-(i-(t+1))-1), ?_,fun d hd=> ?_⟩
 ·rw[List.range_eq_range',List.range_eq_range', ←List.range'_succ,show i-(t+1)=0+1*(i-(t+1)) by omega];have:=List.range'_append (s:=0) (m:=i-(t+1)) (n:=R-(t+1)-(i-(t+1))) (step:=1);rw[show R-(t+1)-(0+1*(i-(t+1)))-1+1=R-(t+1)-(i-(t+1)) by omega];simp only[Nat.zero_add,Nat.one_mul] at this ⊢;rw[this];congr 1;omega
 ·have:=List.mem_range.1 hd;rw[hb (t+1+d) (by omega) (by omega)];rfl
theorem ZmG (hb: ∀ i',t<i'->i'<R->ZfT m C t i'=false):ZdA m C R t=none:=by
 unfold ZdA;rw[List.find?_eq_none];intro d hd;have:=List.mem_range.1 hd;rw[hb (t+1+d) (by omega) (by omega)];simp
theorem Zkt (h: ∀ j,t<j->j<C->(cell m C i j).tmod (cell m C t t)=0):ZfT m C t i=false:=by
 rw[Bool.eq_false_iff];intro e;obtain ⟨j,h1,h2,h3⟩:=Zf3.1 e;exact h3 (h j h1 h2)
theorem ZrZ (h:Md C R t p (Za5 C R t) res s) (hc:(ZW s.1 C R t&&Zap s.1 C t)=false):Fnd res s false:=by
 rcases h with ⟨h1,h2,h3⟩|h
 ·refine .inl ?_;rw[←h2];unfold Za5;rw[hc];rfl
 ·exact .inr h
theorem Zqh (h:Md C R t p (Za5 C R t) res s) (hc:(ZW s.1 C R t&&Zap s.1 C t)=true) (hb: ∀ i',t<i'->i'<R-> ∀ j',t<j'->j'<C->cell s.1 C i' j'=Zah\/(cell s.1 C i' j').tmod p=0):Fnd res s true:=by
 rcases h with ⟨h1,h2,h3⟩|h
 ·refine .inl ?_;rw[←h2];unfold Za5;rw[hc,if_pos rfl,ZmG (fun i' q1 q2=>Zkt fun j' q3 q4=>by rw[h3];exact (hb i' q1 q2 j' q3 q4).resolve_left (ZaO (Zo h1.na C i' j')))]
 ·exact .inr h
theorem ZeD {ops:Array Oper} {rest:List Oper} {o:Oper} {A:Act} {Q:Exit->Act->World->Prop} {x y:Operand} {t:TypeId} {m n v:Int} (hgd:o.guard=none)
  (ho:o.op= .call {callee:= .builtin .min,args:= #[x,y],argTypes:= #[t,t]}) (hx:A.eval x= .int .i64 m) (hy:A.eval y= .int .i64 n) (hv:(if n<m then n else m)=v)
  (h:wpList P ops Q rest (A.put o.dst (.int .i64 v)) w):wpList P ops Q (o::rest) A w:=by
 refine wpList_plain hgd fun K hK=> ?_;subst hv;unfold Oper.wp execOp;simp only[ho,resolve,invoke,builtin,Sem.run_bind,Sem.run_pure,Result.andThen_ok,List.map_toArray,List.map_cons,List.map_nil,hx,hy,run_min_int2];exact hK _ _ h
theorem ZqE (h:t<R) (h2:t<C):ZdB C R (min R C-t) t s=if (Zab s.1 C R t).1<0 then some s else (sA C R t s).bind fun s'=>ZdB C R (min R C-(t+1)) (t+1) (ZfC C R t s'):=by
 rw[show min R C-t=(min R C-(t+1))+1 by omega];rfl
theorem Zq0 (h: ¬ (t<R/\t<C)):ZdB C R (min R C-t) t s=some s:=by
 rw[show min R C-t=0 by omega];rfl
theorem Zp5 (ht:t<=R) (htC:t<=C) (h:0<=(Zab m C R t).1): ∃ r c:Nat,(Zab m C R t).1=(r:Int)/\(Zab m C R t).2=(c:Int)/\t<=r/\r<R/\t<=c/\c<C/\cell m C r c≠0/\lsR m C R t=r/\lsC m C R t=c:=by
 rcases Zhr m (C:=C) (R:=R) (t:=t) ht htC with ⟨h0,_⟩|⟨r,c,h1,h2,h3,h4,h5,h6,_,_⟩
 ·rw[h0] at h;simp at h
 ·exact ⟨r,c,by rw[h1],by rw[h1],h2,h3,h4,h5,h6,by unfold lsR;rw[h1];simp,by unfold lsC;rw[h1];simp⟩
theorem ZdO {fn:Func} {R:Ending->World->Prop} {a:Act} {ty:TypeId} {cs ds es:Array Value} {p q r u:Tmp} {g g' g'':Nat} {t:TypeId} (hT:StT P ty cs.size) (hT':StT P ty ds.size) (hT'':StT P ty es.size) (h:fn.results= #[.cell p ty, .cell q ty, .cell r ty, .tmp u]) (hd:a.defers=[]) (hp:a.tmps.getD p undef= .pointer (some ⟨g,0,none⟩)) (hq:a.tmps.getD q undef= .pointer (some ⟨g',0,none⟩)) (hr:a.tmps.getD r undef= .pointer (some ⟨g'',0,none⟩))
  (hb:Blk w g cs t) (hb':Blk w g' ds t) (hb'':Blk w g'' es t) (hR:R (.returned (.tuple #[.agg cs, .agg ds, .agg es,a.tmps.getD u undef])) w):bodyPost P fn R .ret a w:=by
 have hp':a.tmps[p]?.getD undef= .pointer (some ⟨g,0,none⟩):=by simpa using hp
 have hq':a.tmps[q]?.getD undef= .pointer (some ⟨g',0,none⟩):=by simpa using hq
 have hr':a.tmps[r]?.getD undef= .pointer (some ⟨g'',0,none⟩):=by simpa using hr
 refine bodyPost_ret (v:= .tuple #[.agg cs, .agg ds, .agg es,a.tmps.getD u undef]) ?_ hd hR;simp[results,h,hp',hq',hr',asAddr,hT.load hb,hT'.load hb',hT''.load hb'']
abbrev zM:Value:= .agg #[.int .i64 0, .int .i64 0, .slice none 0 0]
def Zb9 (m:List Int) (C n:Nat):List Int:=((List.range n).map fun i=>cell m C i i).filter fun x=>x !=0
theorem ZpK (h:cell m C n n≠0):Zb9 m C (n+1)=Zb9 m C n++[cell m C n n]:=by
 unfold Zb9;rw[List.range_succ,List.map_append,List.filter_append];simp[h]
theorem ZrP (h:cell m C n n=0):Zb9 m C (n+1)=Zb9 m C n:=by
 unfold Zb9;rw[List.range_succ,List.map_append,List.filter_append];simp[h]
theorem ZqX (h:NumL m):NumL (Zb9 m C n):=fun x hx=>by
 have:=(List.mem_filter.1 hx).1;obtain ⟨i,_,rfl⟩:=List.mem_map.1 this;exact Zo h C i i
def Zes (m:Mat):Option (List Int):=if Ze m=true then (ZcM m.cells m.rows.toNat m.cols.toNat).map fun s=>Zb9 s.1 m.cols.toNat (min m.rows.toNat m.cols.toNat) else none
def ZeF (m:Mat):Bool:=(Zes m).isSome
def Zek (m:Mat):List Int:=(Zes m).getD []
theorem ZfZ {m:Mat} (h:Zes m=none):ZeF m=false/\Zek m=[]:=by unfold ZeF Zek;rw[h];exact ⟨rfl,rfl⟩
theorem Zmm {m:Mat} {x:List Int} (h:Zes m=some x):ZeF m=true/\Zek m=x:=by unfold ZeF Zek;rw[h];exact ⟨rfl,rfl⟩
theorem Zne {m:Mat} (h:Ze m=false):Zes m=none:=by unfold Zes;rw[h];rfl
theorem ZlT {cells:List Int} (hB:Ze {rows:=(R:Int),cols:=(C:Int),cells:=cells}=true):Zes {rows:=(R:Int),cols:=(C:Int),cells:=cells}=(ZcM cells R C).map fun s=>Zb9 s.1 C (min R C):=by
 unfold Zes;rw[hB];rfl
structure FacPk (w:World) (S:Nat->Prop) (m:Mat) (D E:Nat) (aa:Option Addr) (na ca:Nat) (L:List Int) (b:Bool):Prop where
 rd:RdI w S aa na ca L
 len:L.length=D*E
 num:NumL L
 hD:D<=24
 hE:E<=24
 ok:ZeF m=b
 fac:Zek m=Zb9 L E (min D E)
theorem FacPk.zero {S:Nat->Prop} {m:Mat} (h:Zes m=none):FacPk w S m 0 0 none 0 0 [] false:=
 ⟨RdI.nilw w,by simp,(fun x hx=>by cases hx),by omega,by omega,(ZfZ h).1,by rw[(ZfZ h).2];rfl⟩

end Go.Proofs.YtjpcgofidijigaaGreatDoor
