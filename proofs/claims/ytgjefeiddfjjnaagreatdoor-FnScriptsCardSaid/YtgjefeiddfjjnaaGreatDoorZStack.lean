/- StackRows: the program's and the reference's. -/
import Derived.Test.YtgjefeiddfjjnaaGreatDoorZBasI
import Derived.Laws.CopyOwn
import Derived.Test.YtgjefeiddfjjnaaGreatDoorZKer
import Derived.Test.YtgjefeiddfjjnaaGreatDoorZFacI
import Derived.Test.YtgjefeiddfjjnaaGreatDoorZRatI
set_option maxHeartbeats 8000000
set_option maxRecDepth 100000
namespace Go.Proofs.YtgjefeiddfjjnaaGreatDoor
open Go.RowKit
open Lib (hid)
open Go.Value renaming int->Yv
open Go.IntKind renaming i64->Yi
open List renaming drop_eq_getElem_cons->MH,getElem?_eq_some_iff->K1,getElem?_take->LH,length_take->Le,map_cons->JV,map_nil->Kj,map_toArray->L5,mem_cons->JU,mem_of_mem_take->L6,not_mem_nil->Kl,take_append->NW,take_of_length_le->LQ
open Nat renaming le_refl->JM,mul_le_mul->JL,mul_one->Ld,zero_le->JI
open Option.some renaming inj->JJ
open Go.Proofs.Tryz renaming func276->Qk,ntmps276->Ql,prog->JG
open Go.Proofs.Tryz
variable {C c cap g j k n:Nat} {P:Program} {S T:Nat->Prop} {a:Option Addr} {m:List Int} {t:TypeId} {w:World}
theorem ZgJ {m:Mat} (h:Zd m=true):bdM m<=576:=by
 obtain ⟨R,C,_,_,a,b,d,_⟩:=Zl h;have c:R*C<=24*24:=JL a b;unfold bdM;omega
theorem ZqR {α:Type} (L:List α) (off:Nat):splice L off []=L:=by simp[splice]
theorem Zvf {o:Oper} {a:Act} {K:Act->World->Prop} {Q:Exit->Act->World->Prop} {d s:Operand} {e:TypeId} {z:Value} {bytes:Nat} (ho:o.op= .call {callee:= .builtin .copy,args:= #[d,s],argTypes:= #[t,t]})
  (hT:SlT P t e z 1 bytes) {dp sp oa:Option Addr} {dCap sLen sCap off:Nat} {cs news:List Value} (hd:a.eval d= .slice dp sLen dCap) (hs:a.eval s= .slice sp sLen sCap) (hown:Own w e 1 oa n cap cs)
  (hsrc:Row w S 1 sp sLen sCap news) (h1: ∀ u∈news,u.oneCell'=true) (hfit:off+sLen<=n) (hdp:0<sLen-> ∃ g,oa=some ⟨g,0,none⟩/\dp=some ⟨g,off,none⟩)
  (h: ∀ w' v,Own w' e 1 oa n cap (splice cs off news)->Keep (fun q=>blk oa≠some q) w w'->K (a.put o.dst v) w'):o.wp P a w K Q:=by
 obtain ⟨C,⟨i,D,R,y,E⟩,F⟩:=hT;have k:(P.info? e).map (·.size)=some 1:=by rw[D];simp[y]
 have f:news.length=sLen:=by have:=hsrc.len;omega
 by_cases G:sLen=0
 ·subst G;obtain rfl:news=[]:=List.eq_nil_of_length_eq_zero f;have A:=run_copy_none (P:=P) w t t o.type e dp sp 0 dCap 0 sCap C k rfl;unfold Oper.wp execOp;simp only[ho,resolve,invoke,builtin,Sem.run_bind,Sem.run_pure,Result.andThen_ok,L5,JV,Kj,hs,hd,A];exact h w _ (by rw[ZqR];exact hown) (Keep.refl _ _)
 ·obtain ⟨g,rfl,rfl⟩:=hdp I;obtain ⟨-,m,B,r,c⟩:=hown.block _ rfl;obtain ⟨b,H,rfl, -,J⟩:=hsrc.addr (by intro L;rw[L] at f;simp at f;omega);have x:=hown.len;have M:=hown.le;rw[Ld] at r c x;have A:=run_copy_row (P:=P) w t t o.type e g off sLen dCap ⟨b,H,none⟩ sLen sCap m e news C k B (by simp[f]) (fun j v N=>by rw[Addr.add_lit];exact J j v N) I h1;unfold Oper.wp execOp;simp only[ho,resolve,invoke,builtin,Sem.run_bind,Sem.run_pure,Result.andThen_ok,L5,JV,Kj,hs,hd,A];refine h _ _ ⟨?_,hown.le,hown.max,hown.nil,fun p O=> ?_⟩ (ZjD B _)
  ·rw[length_splice _ _ _ I,x,Ld]
  ·obtain rfl:=JJ O;refine ⟨rfl,_,setRow_heap w g m _ e _ B, ?_, ?_⟩
   ·exact IV
   ·rw[Ld, ←c];unfold splice;simp only[List.append_assoc];rw[List.take_take,Nat.min_eq_left I,NW,NW];simp only[Le,Array.length_toList];rw[LQ (l:=List.take off m.toList) Ψ,LQ (l:=news) I];congr 2;rw[List.drop_take];congr 1;omega
def ZbG (m:List Int) (K n:Nat) (t:Nat):List Int:=((List.range t).map fun i=>(Zag m K i).take n).flatten
theorem ZlX (m:List Int) (K n t:Nat):ZbG m K n (t+1)=ZbG m K n t++(Zag m K t).take n:=by
 unfold ZbG;rw[List.range_succ,List.map_append,List.flatten_append];simp
theorem Zh9 {m:List Int} {K R n:Nat} (hl:m.length=R*K) (hn:n<=K): ∀ {t:Nat},t<=R->(ZbG m K n t).length=t*n
 |0,_=>by simp[ZbG]
 |t+1,h=>by rw[ZlX,List.length_append,Zh9 hl hn I,Le,Zea hl I,Nat.add_mul];omega
theorem Zkf {K:Nat} (h:NumL m) (t:Nat):NumL (ZbG m K n t):=fun x a=>by
 unfold ZbG at a;rw[List.mem_flatten] at a;obtain ⟨l,b,a⟩:=a;obtain ⟨i,_,rfl⟩:=List.mem_map.1 b;exact h x (List.mem_of_mem_drop (L6 (L6 a)))
theorem ZuF (m:Mat):bdM (Zdr m)<=1024:=by
 cases hB:Zd m with
 |false=>rw[(ZfB CF).2];simp[bdM]
 |true=>
  obtain ⟨R,C,b,c,e,f,g,a⟩:=Zl hB;have h:R*C<=24*24:=JL e f;unfold Zdr;cases d:ZbS m with
  |none=>simp[bdM]
  |some s=>have i:ZbP m.cells R C=some s:=(by unfold ZbS at d;rw[hB,if_pos rfl,b,c] at d;simpa using d);have:=(Zcj g a i).1.la;unfold bdM;simp only[Le];omega
theorem ZuQ (m:Mat):bdM (Zcv m)<=1024:=by
 unfold Zcv;split
 ·exact ZuF _
 ·simp[bdM]
structure Zwz (m:Mat) (R N:Nat) (b:List Int):Prop where
 eq:Zcv m={rows:=(N:Int),cols:=(R:Int),cells:=b}
 rows:m.rows=(R:Int)
 hR:R<=24
 hN:N<=24
 len:b.length=N*R
 num:NumL b
theorem Ztr (a b:Option Addr) (n m cap cap':Nat) (xs ys:List Int) (w:World) (h:RdI w S a n cap xs) (h':RdI w T b m cap' ys) (hn:n<=2097152):
  Calls JG 276 #[.slice a n cap, .slice b m cap'] w fun e w'=>e= .returned (.bool (Zlb xs ys))/\Qt w w':=by
 have B:=h.len;have g:=h'.len;by_cases j:n=m
 ·subst j;go_enter Qk,Ql;go_wp2;go_loopw [13] (fun i wr=>Qt w wr/\ ∃ k:Nat,k<=n/\i=Yv Yi k/\xs.take k=ys.take k) (fun i _=>n-(intOf i).toNat);case atStart=>exact ⟨Qt.refl _,0,JI _,rfl,rfl⟩
  case round=>
   obtain ⟨d,k,G,rfl,l⟩:=hrel;have o:=hid l;clear l;by_cases f:k<n
   ·obtain ⟨H,p,x,rfl,q,C,_,D,J⟩:=(h.grow d.grow).at f;obtain ⟨L,r,y,rfl,s,E,_,t,F⟩:=(h'.grow d.grow).at f;have v:=hid q;clear q;have z:=hid s;clear s;by_cases c:x=y
    ·subst c;go_wp2
     go_quiet (fail)
     go_wp2;go_roundw;case rel=>exact ⟨d.drewN _,k+1,I,Δ,by rw[ZH v.out,ZH z.out,o.out]⟩
     case measure=>exact FN
    ·have A:(x==y)=false:=(by simpa using c);go_wp2
     go_quiet (fail)
     go_wp2;go_ret;refine ⟨Zm (Eq.symm (decide_eq_false ?_)),d.drewN _⟩;intro e;subst e;exact c (JJ (v.out.symm.trans z.out))
   ·go_wp2;go_ret;have:k=n:=I;subst this;refine ⟨Zm (Eq.symm (decide_eq_true ?_)),d⟩;have:=o.out
    rwa [Z5 B,Z5 g] at this
 ·have M:((n:Int)==(m:Int))=false:=Ψ
  go_enter Qk,Ql;go_wp2;go_ret;refine ⟨Zm (Eq.symm (decide_eq_false ?_)),Qt.refl _⟩;intro e;subst e;omega
def cmpL:List Int->List Int->Int
 |x::xs,y::ys=>if x=y then cmpL xs ys else if x<y then -1 else 1
 |[],_::_=> -1
 |_::_,[]=>1
 |[],[]=>0
theorem Zfz: ∀ {k:Nat} {xs ys:List Int},xs.take k=ys.take k->k<=ys.length->cmpL xs ys=cmpL (xs.drop k) (ys.drop k)
 |0,_,_,_,_=>rfl
 |k+1,[],ys,h,hk=>by
  cases ys with
  |nil=>rfl
  |cons y ys=>simp at h
 |k+1,x::xs,[],h,hk=>ν
 |k+1,x::xs,y::ys,h,hk=>by simp only[List.take_succ_cons,List.cons.injEq] at h;obtain ⟨rfl,h⟩:=h;simp only[cmpL,if_true,List.drop_succ_cons];exact Zfz h (by simpa using hk)
def Zix (x y:Int):Int:=if x<y then -1 else if y<x then 1 else 0
theorem ZoI (x y:Int) (w:World):Calls JG 243 #[Yv Yi x,Yv Yi y] w fun e w'=>e= .returned (Yv Yi (Zix x y))/\w=w':=by
 have a:(x==x)=true:=Θ
 have b:(y==y)=true:=Θ
 go_enter func243,ntmps243;go_wp2;all_goals (go_ret;exact ⟨ZJ (by unfold Zix;first |rw[if_pos I]|rw[if_neg I,if_pos I]|rw[if_neg I,if_neg I]),rfl⟩)
theorem Zqq (a b:Option Addr) (n m cap cap':Nat) (xs ys:List Int) (w:World) (h:RdI w S a n cap xs) (h':RdI w T b m cap' ys) (hn:n<=2097152) (_hm:m<=2097152):
  Calls JG 179 #[.slice a n cap, .slice b m cap'] w fun e w'=>e= .returned (Yv Yi (cmpL xs ys))/\w=w':=by
 have V:=h.len;have H:=h'.len;go_enter func179,ntmps179;go_wp2;go_loop [11] (fun i=> ∃ k:Nat,k<=n/\k<=m/\i=Yv Yi k/\xs.take k=ys.take k) (fun i=>n-(intOf i).toNat);case atStart=>exact ⟨0,JI _,JI _,rfl,rfl⟩
 case round=>
  obtain ⟨k,W,J,rfl,C⟩:=hrel;have o:=hid C;clear C;by_cases v:k<n
  ·obtain ⟨X,D,x,rfl,z,L,_,M,Y⟩:=h.at v;have p:xs.drop k=x::xs.drop (k+1):=(by obtain ⟨A,rfl⟩:=K1.1 z;exact MH A);have f:=hid p;clear p;have N:=hid z;clear z;by_cases d:k<m
   ·obtain ⟨Z,E,y,rfl,B,O,_,F,P⟩:=h'.at d;have q:ys.drop k=y::ys.drop (k+1):=(by obtain ⟨A,rfl⟩:=K1.1 B;exact MH A);have r:=hid q;clear q;have R:=hid B;clear B;have G:=hid (Zfz o.out I);by_cases g:x=y
    ·subst g;have s:Zix x x=0:=(by simp[Zix]);go_wp2_with (go_at_call 243;refine (ZoI _ _ _).mono ?_;rintro e w' ⟨rfl,rfl⟩;rw[s])
     go_round
     case rel=>exact ⟨k+1,I,I,Δ,by rw[ZH N.out,ZH R.out,o.out]⟩
     case measure=>exact FN
    ·by_cases c:x<y
     ·have s:Zix x y= -1:=(by simp[Zix,c]);go_wp2_with (go_at_call 243;refine (ZoI _ _ _).mono ?_;rintro e w' ⟨rfl,rfl⟩;rw[s]);go_ret;exact ⟨ZJ (by rw[G.out,f.out,r.out];simp only[cmpL];rw[if_neg g,if_pos c]),rfl⟩
     ·have s:Zix x y=1:=(by unfold Zix;rw[if_neg c,if_pos I]);have t:=hid c;clear c;go_wp2_with (go_at_call 243;refine (ZoI _ _ _).mono ?_;rintro e w' ⟨rfl,rfl⟩;rw[s]);go_ret;exact ⟨ZJ (by rw[G.out,f.out,r.out];simp only[cmpL];rw[if_neg g,if_neg (by have:=t.out;omega)]),rfl⟩
   ·go_wp2;go_ret;refine ⟨ZJ ?_,rfl⟩;have j:ys.drop k=[]:=C9;rw[Zfz o.out I,f.out,j];rfl
  ·have:k=n:=I;subst this;by_cases d:k<m
   ·go_wp2;go_ret;refine ⟨ZJ ?_,rfl⟩;have l:xs.drop k=[]:=C9;rw[Zfz o.out I,l,MH (show k<ys.length by omega)];rfl
   ·go_wp2;go_ret;refine ⟨ZJ ?_,rfl⟩;have l:xs.drop k=[]:=C9;have j:ys.drop k=[]:=C9;rw[Zfz o.out I,l,j];rfl
theorem SepII.app {w0 w2 w3:World} {a' b:Option Addr} {cap':Nat} {vs:List Value} {xss:List (List Int)} {xs:List Int} (hI:Inner w (New w0 w) (blk a) vs xss) (hlo: ∀ g,blk a=some g->New w0 w g) (hg:Grow w w2)
  (hb:Own w2 3 1 b xs.length c (ints xs)) (hr: ∀ x∈xs,I64 x) (h0:w0.heap.size<=w.heap.size) (hbn: ∀ q,blk b=some q->w.heap.size<=q) (ha:Apped w2 w3 35 1 a a' n cap' (vs++[.slice b xs.length c])):
  SepII w3 (New w0 w3) a' n cap' (xss++[xs]):=by
 have o:=hg.size;have p:=ha.keep.size;have j:Inner w2 (New w0 w3) (blk a) vs xss:=(hI.grow hg).weak fun q _ i d=>⟨⟨i.1,by have:=i.2;omega⟩,d⟩
 have k:=j.snoc (b:=b) (c:=c) hb hr
  (fun q h=>⟨⟨by have:=hbn q h;omega,by have:=hb.lt h;omega⟩,fun e=>by have:=(hlo q e).2;have:=hbn q h;omega⟩)
  (fun q h v r l=>by have:=(hI.lt r l).1;have:=hbn q h;omega)
 refine ⟨⟨_,ha.own,k.move ha.keep fun q h i d=>⟨d,i, ?_⟩⟩,fun g f=>⟨?_,ha.own.lt f⟩⟩
 ·rcases ha.new with e|⟨g,e,m⟩
  ·rw[e];exact d
  ·rw[e];intro s;have:=JJ s;omega
 ·rcases ha.new with e|⟨t,e,m⟩
  ·have:=(hlo g (by rw[←e];exact f)).1;omega
  ·rw[e] at f;have:=JJ f;omega
def ZvW (l:List (List Int)) (k:Int):List (List Int):=l.filter fun s=>(s.length:Int)-1==k
theorem SepII.fresh0 (w:World):SepII (w.alloc (.cells #[] 35)) (New w (w.alloc (.cells #[] 35))) (some ⟨w.heap.size,0,none⟩) 0 0 []:=
 ⟨⟨[],Own.fresh Γ rfl,Inner.nilw⟩,fun g a=>by simp at a;subst a;exact ⟨JM _,Θ⟩⟩
def few (l:List (List Int)):Prop:= ∀ k:Nat,k<4->(ZvW l k).length<=24
theorem RdII.pre {l:List (List Int)} (h:RdII w S a n cap l) (hk:k<=n):RdII w S a k cap (l.take k):=by
 obtain ⟨⟨m,d,o⟩,t⟩:=h;have p:=d.len;refine ⟨⟨m.take k,⟨Ψ,by have:=d.le;omega,d.max,d.nil,fun hne=> ?_⟩,fun i q f=> ?_⟩,Ψ⟩
 ·have:m≠[]:=EH
  obtain ⟨b,off,rfl,hS,hc⟩:=d.addr this;exact IX
 ·rw[LH] at f;split at f
  ·rename_i g;obtain ⟨b,c,r,s⟩:=o i q f;exact ⟨b,c,by rw[LH,if_pos g];exact r,s⟩
  ·cases f
def Zc2 (a b:Mat):Bool:=decide (a.rows=b.rows)&&(decide (a.cols=b.cols)&&Zlb a.cells b.cells)
theorem ZmO {u v:Value} {A B:Mat} (hA:VM w S u A) (hB:VM w T v B) (hb:bdM A<=2097152):
  Calls JG 240 #[u,v] w fun e w'=>e= .returned (.bool (Zc2 A B))/\Grow w w':=by
 obtain ⟨b,c,d,rfl,hA,o,p⟩:=hA;obtain ⟨f,g,h,rfl,hB,q,r⟩:=hB;obtain ⟨J,a,hG3,i,j, -⟩:=al2 w #[Yv Yi A.rows,Yv Yi A.cols, .slice b c d] 37 #[Yv Yi B.rows,Yv Yi B.cols, .slice f g h] 37;obtain ⟨⟨s,t,x⟩, -⟩:=i.three;obtain ⟨⟨y,z,C⟩, -⟩:=j.three;have k:=i.lt;have l:=j.lt;have m:=hA.grow hG3;have n:=hB.grow hG3;have D:=m.len;have E:=n.len;unfold bdM at hb;have Hw3:=hid a;rw[a] at s t x y z C;clear a;by_cases h1:A.rows=B.rows
 ·have F:(A.rows==B.rows)=true:=AU
  by_cases h2:A.cols=B.cols
  ·have G:(A.cols==B.cols)=true:=DP;have Hz:=hid (show Zc2 A B=Zlb A.cells B.cells by unfold Zc2;rw[decide_eq_true h1,decide_eq_true h2];rfl);clear h1 h2;go_enter func240,ntmps240;go_wp2_with fail;rw[←Hw3.out];refine (Ztr b f c g d h A.cells B.cells _ m n I).mono ?_;rintro e L ⟨rfl,H⟩;go_wp2;go_ret;exact ⟨Ce,hG3.trans H.grow⟩
  ·have G:(A.cols==B.cols)=false:=DP;have Hz:=hid (show Zc2 A B=false by unfold Zc2;rw[decide_eq_false h2];simp);clear h1 h2;exact Jo
 ·have F:(A.rows==B.rows)=false:=AU
  have Hz:=hid (show Zc2 A B=false by unfold Zc2;rw[decide_eq_false h1];rfl);clear h1;exact Jo
def ResL (p:Int) (m:List Int):Prop:= ∀ x∈m,0<=x/\x<p
theorem ResL.getD {p:Int} (hp:2<=p) (h:ResL p m) (i:Nat):0<=m.getD i 0/\m.getD i 0<p:=by
 by_cases hi:i<m.length
 ·have e:m.getD i 0=m[i]:=CL
  rw[e];exact h _ (List.getElem_mem hi)
 ·have e:m.getD i 0=0:=by simp[List.getD,List.getElem?_eq_none (show m.length<=i by omega)]
  rw[e];omega
def elK (m:List Int) (C j:Nat):Nat->Nat->Nat
 |0,k=>k
 |n+1,k=>if cell m C k j=0 then elK m C j n (k+1) else k
theorem Zun (h:cell m C k j=0):elK m C j (n+1) k=elK m C j n (k+1):=by simp only[elK];rw[if_pos h]
theorem ZuX (h:cell m C k j≠0):elK m C j n k=k:=by
 cases n with
 |zero=>rfl
 |succ n=>simp only[elK];rw[if_neg h]
def Zbs (m:List Int) (C t k:Nat):List Int:=if k=t then m else swR m C k t
theorem Zs3 (m:List Int) (C t k:Nat):(Zbs m C t k).length=m.length:=by
 unfold Zbs;split
 ·rfl
 ·exact ZbA ..
theorem Zgu {f:Nat->Int} {R i i':Nat} (hl:m.length=R*C) (hi:i<R) (hk:k<=C) (hj:j<C) (h:i'≠i\/k<=j):cell (Zz f (i*C) k m) C i' j=cell m C i' j:=by
 unfold cell;have b:i*C+k<=m.length:=Bk
 rw[ZaV b,if_neg];rintro ⟨c,d⟩;obtain ⟨a,e⟩:=Zb5 (i:=i') (i':=i) (j:=j) (j':=i'*C+j-i*C) hj I I;rcases h with h|h
 ·exact h a
 ·subst a;omega
theorem ZfQ {fn:Func} {R:Ending->World->Prop} {a:Act} {ty:TypeId} {cs:Array Value} {p u v:Tmp} (hT:StT P ty cs.size) (h:fn.results= #[.cell p ty, .tmp u, .tmp v]) (hd:a.defers=[]) (hp:a.tmps.getD p undef= .pointer (some ⟨g,0,none⟩))
  (hb:Blk w g cs t) (hR:R (.returned (.tuple #[.agg cs,a.tmps.getD u undef,a.tmps.getD v undef])) w):bodyPost P fn R .ret a w:=by
 have b:a.tmps[p]?.getD undef= .pointer (some ⟨g,0,none⟩):=Et
 refine bodyPost_ret (v:= .tuple #[.agg cs,a.tmps.getD u undef,a.tmps.getD v undef]) ?_ hd hR;simp[results,h,b,asAddr,hT.load hb]
theorem ZoE (hg:g=w.heap.size):RdI (w.alloc (.cells #[] 3)) (fun _=>True) (some ⟨g,0,none⟩) 0 0 []:=
 (show Own (w.alloc (.cells #[] 3)) 3 1 (some ⟨g,0,none⟩) 0 0 (ints []) from Own.freshAt hg Γ rfl).rdI (fun _ _=>trivial) fun x hx=>AO
theorem Zqr {m:Mat} {xa:Option Addr} {xn xc:Nat} {bs:List Int} (h:RdI w S a n c m.cells) (hr:I64 m.rows) (hc:I64 m.cols) (hb:m.cells.length<=1048576) (hX:RdI w T xa xn xc bs) (hxn:xn<=1048576):
  Calls JG 65 #[.agg #[Yv Yi m.rows,Yv Yi m.cols, .slice a n c], .slice xa xn xc] w fun e w'=> ∃ ya yn yc ys code,e= .returned (.tuple #[.slice ya yn yc,Yv Yi code])/\RdI w' (fun _=>True) ya yn yc ys/\yn<=576/\Grow w w':=by
 obtain ⟨w1,N,O,bM, -⟩:=al1 w #[Yv Yi m.rows,Yv Yi m.cols, .slice a n c] 37;obtain ⟨⟨P,G,W⟩, -⟩:=bM.three;have r:=bM.lt;rw[N] at P G W r;have ar:=hid N;have hm:=h.grow O;have hx:=hX.grow O;clear N h hX;go_enter func65,ntmps65;go_wp2_with fail;rw[←ar.out];clear P G W r;refine (Zqi hm hr hc hb hx hxn).mono ?_;rintro e w2 ⟨d1,d2,da,dn,dc,u1,u2,ua,un,uc,v1,v2,va,vn,vc,ca,cn,cc,ok,rfl,Y,ag⟩;obtain ⟨w3,hw3,hG3,bD, -,bV, -⟩:=al3 w2 #[Yv Yi d1,Yv Yi d2, .slice da dn dc] 37 #[Yv Yi u1,Yv Yi u2, .slice ua un uc] 37 #[Yv Yi v1,Yv Yi v2, .slice va vn vc] 37;have H:=(O.trans ag).trans hG3;cases ok with
 |false=>
  clear Y hm hx;go_wp2;rw[←hw3]
  go_ret2
  exact ⟨_,0,0,[],2,rfl,ZoE Db,I,H.alloc _ _⟩
 |true=>
  obtain ⟨R,C,D,V,cs,be,av,hR,hC,rfl,rfl,rfl,rfl,rD,lD,nD,rV,lV,nV,rC,nC,lC⟩:=Y rfl;have aw:cn=R:=by rw[←rC.len];exact lC
  subst aw;obtain ⟨⟨P,G,W⟩, -⟩:=bD.three;have J:=bD.lt;rw[hw3] at P G W J;go_wp2_with fail;rw[←hw3];have bf:=hid hw3;clear P G W J hw3;refine (ZnX (S:=fun _=>True) (T:=fun _=>True) da ca dn dc cn C cn cc D cs _ (rD.grow hG3) lD nD hR hC (rC.grow hG3) I).mono ?_;rintro e L ⟨k,rfl,d⟩;have f:=H.trans d;by_cases hk:0<=k
  ·have q1:decide (0<=k)=true:=decide_eq_true hk;clear hk;go_wp2
   go_ret2
   exact ⟨_,0,0,[],1,rfl,ZoE rfl,I,f.alloc _ _⟩
  ·have q1:decide (0<=k)=false:=decide_eq_false hk;clear hk;have Z:=((bM.grow ag).grow hG3).grow d;obtain ⟨⟨P,G,W⟩, -⟩:=Z.three;have r:=Z.lt;rw[av] at G;have bg:=T_ints.make (n:=C) I Γ;obtain ⟨w5,aa,s, -, -⟩:=al1 L (madeCells #[Yv Yi 0] C) 3;have oY:Own w5 3 1 (some ⟨L.heap.size,0,none⟩) C C (ints (List.replicate C 0)):=(by have:=Own.freshAt (w:=L) (e:=3) (sz:=1) (cs:=madeCells #[Yv Yi 0] (C*1)) (n:=C) rfl Γ Cr;rw[Zhj,Ld] at this;rw[aa];exact this);have ah:=f.trans s;have ax:=(bD.grow d).grow s;have ay:=(bV.grow d).grow s;have az:=(((rD.grow hG3).grow d).grow s);have a0:=(((rC.grow hG3).grow d).grow s);have a1:=hid aa;clear aa;go_wp2;rw[←a1.out];go_loopw [38] (fun i wr=>Grow L wr/\ ∃ (j:Nat) (ys:List Int),j<=C/\i=Yv Yi j/\ys.length=C/\NumL ys/\Own wr 3 1 (some ⟨L.heap.size,0,none⟩) C C (ints ys)) (fun i _=>C-(intOf i).toNat);case atStart=>exact ⟨s,0,_,JI _,rfl,Θ,(fun x hx=>by have:=List.eq_of_mem_replicate hx;omega),oY⟩
   case round=>
    obtain ⟨hG,j,ys,hj,rfl,ai,nY,ab⟩:=hrel;have M:=f.trans hG;by_cases bh:j<C
    ·have ad:=(bD.grow d).grow hG;obtain ⟨⟨x0,x1,x2⟩, -⟩:=ad.three;have a2:=ad.lt;have aj:=((rD.grow hG3).grow d).grow hG;have ak:=((rC.grow hG3).grow d).grow hG;go_wp2_with fail;refine (Zmm da dn dc cn C j D _ aj lD nD hR hC).mono ?_;rintro e w6 ⟨y,rfl,hy,a3,ae⟩;have t:=hG.trans ae;have v:=ab.grow ae;clear x0 x1 x2 a2 aj ad;by_cases B:y=0
     ·have q2:(y !=0)=false:=(by simp[B]);clear B;go_wp2;go_roundw;case rel=>exact ⟨t,j+1,ys,I,Δ,ai,nY,v⟩
      case measure=>exact FN
     ·have q2:(y !=0)=true:=(by simp[B]);obtain ⟨b2,bi,x,rfl,al,a4,_,bj,bk⟩:=(ak.grow ae).at (a3 B);have hxn:=nC x (List.mem_of_getElem? al);have bl:=Zbw x y;have a5:=v.cell (Zab (xs:=ys) (j:=j) I (rfl:ys.getD j 0=ys.getD j 0));have A:=v.free j;have bm:=v.lt (g:=L.heap.size) rfl;have bn:=v.le;have u1:wrap64 (x.tdiv y)=x.tdiv y:=ZK I;have u2:IntKind.i64.wrap (x.tdiv y)=x.tdiv y:=IntWalk.i64_in _ I;have a6:NumL (ys.set j (x.tdiv y)):=fun z hz=>by
       rcases List.mem_or_eq_of_mem_set hz with hz|rfl
       ·exact nY z hz
       ·omega
      have am:=v.set j (Yv Yi (x.tdiv y));rw[←ints_set] at am;have a7:=t.setCell (p:=⟨L.heap.size,j,none⟩) (JM _) (Yv Yi (x.tdiv y));simp only at a5 A;clear al ak a4;go_wp2;go_roundw;case rel=>exact ⟨a7,j+1,ys.set j (x.tdiv y),I,Δ,by simp[ai],a6,am⟩
      case measure=>exact FN
    ·obtain rfl:j=C:=I;have a8:=(bV.grow d).grow hG;have vA:VM wr (fun _=>True) (.agg #[Yv Yi (j:Int),Yv Yi (j:Int), .slice va vn vc]) {rows:=(j:Int),cols:=(j:Int),cells:=V}:=⟨va,vn,vc,rfl,((rV.grow hG3).grow d).grow hG,by show I64 (j:Int);unfold I64;omega,by show I64 (j:Int);unfold I64;omega⟩;have bo:j*j<=24*24:=JL hC hC;have hbA:bdM {rows:=(j:Int),cols:=(j:Int),cells:=V}<=2097152:=Al;have rX:=ab.rdI (S:=fun _=>True) (fun _ _=>trivial) (Zp nY);have bp:=rV.len;obtain ⟨E,rfl⟩:=eX wr;obtain ⟨xs,rfl⟩:=eX ys;have an:=M;clear M hm hx ab rD rC rV nC nD oY ax ay az a0 ah Z P G W r;have b2:=a8;go_wp2;have hbX:bdM (Zgk xs)<=2097152:=DA;obtain ⟨X,hX⟩:=eX (Zgk xs);rw[←hX] at hbX;have HX:=hid hX;clear hX;refine Zai (S:=Grow E) (T:=fun _=>True) [0,1] [2,3,7] [4,5,6] [([],some 8),([9],none)] ZaB Ξ (fun _ _ _ _ _ h=>h) (Grow.refl _).drew ?_;refine Zh ?_;refine ⟨Ξ,ColPost E.heap.size {rows:=(j:Int),cols:=(j:Int),cells:=V} X,fun _ _=>none,ColPost.stays,(fun _ _ _ _ _ h=>Ω),(fun _ _ _=>rfl), ?_, ?_, ?_⟩
     ·intro i hi o ho b wi t hSw l A K hK;have a9:b.tmps.getD 57 undef= .agg #[Yv Yi (j:Int),Yv Yi (j:Int), .slice va vn vc]:=A 57 Φ;have ba:b.tmps.getD 58 undef= .slice (some ⟨L.heap.size,0,none⟩) j j:=A 58 Φ;have hs2:=hSw.size;simp only[JU,Kl,or_false] at hi;rcases hi with rfl|rfl|rfl
      ·obtain rfl:=oI ho;refine Zdx (x:= .tmp 58) rfl func121 rfl rfl ba ?_;exact GN
      ·obtain rfl:=oI ho;have d1:OM wi (fun g=>E.heap.size<=g) (b.tmps.getD 59 undef) X:=l 2 Φ ⟨⟨2, .data⟩,Θ,rfl,rfl⟩ 59 rfl;refine Zbr (x:= .tmp 57) (y:= .tmp 59) rfl func120 rfl rfl a9 rfl ?_;exact Gx
      ·exact FW
     ·intro i hi o ho b wi t hSw l A;simp only[JU,Kl,or_false] at hi;rcases hi with rfl|rfl|rfl
      ·obtain rfl:=oI ho;have d3: ∃ y,b.tmps.getD 60 undef= .tuple #[y, .bool (ZC {rows:=(j:Int),cols:=(j:Int),cells:=V} X)]/\OM wi (fun g=>E.heap.size<=g) y (Zq {rows:=(j:Int),cols:=(j:Int),cells:=V} X):=l 3 Φ ⟨⟨3, .data⟩,Θ,rfl,rfl⟩ 60 rfl;exact ⟨b.tmps.getD 60 undef,fun _ _=>rfl,d3⟩
      ·obtain rfl:=oI ho;obtain ⟨y,e4,hO⟩: ∃ y,b.tmps.getD 56 undef= .tuple #[y, .bool (ZC {rows:=(j:Int),cols:=(j:Int),cells:=V} X)]/\OM wi (fun g=>E.heap.size<=g) y (Zq {rows:=(j:Int),cols:=(j:Int),cells:=V} X):=l 4 Φ ⟨⟨4, .data⟩,Θ,rfl,rfl⟩ 56 rfl;exact ⟨y,fun w' _=>ZP (x:= .tmp 56) rfl e4 rfl w',hO⟩
      ·obtain rfl:=oI ho;obtain ⟨y,e4,hO⟩: ∃ y,b.tmps.getD 56 undef= .tuple #[y, .bool (ZC {rows:=(j:Int),cols:=(j:Int),cells:=V} X)]/\OM wi (fun g=>E.heap.size<=g) y (Zq {rows:=(j:Int),cols:=(j:Int),cells:=V} X):=l 4 Φ ⟨⟨4, .data⟩,Θ,rfl,rfl⟩ 56 rfl;exact ⟨.bool (ZC {rows:=(j:Int),cols:=(j:Int),cells:=V} X),fun w' _=>ZP (x:= .tmp 56) rfl e4 rfl w',rfl⟩
     intro vs wi t hSw Y _;apply ZbU
     ·show _=([some 59,some 60,some 14,some 56,some 61,some 62]:List (Option Tmp))
      kernel_rfl
     simp only[Zdm,List.cons_append,List.nil_append,JV,Kj,List.zip_cons_cons,List.zip_nil_right,Act.put,List.setIfInBounds_toArray,List.set_cons_succ,List.set_cons_zero];refine ⟨?_⟩;have p5:OM wi (fun g=>E.heap.size<=g) (vs 5) (Zq {rows:=(j:Int),cols:=(j:Int),cells:=V} X):=Y 5 Φ;have p6:vs 6= .bool (ZC {rows:=(j:Int),cols:=(j:Int),cells:=V} X):=Y 6 Φ;obtain ⟨g,p7,bq,F⟩: ∃ g,vs 7= .pointer (some ⟨g,0,none⟩)/\E.heap.size<=g/\Blk wi g #[Yv Yi 0,Yv Yi 0, .slice none 0 0] 37:=Y 7 Φ;obtain ⟨ap,np,cp,e5,op,xp,fp,ip,jp⟩:=p5;have ao:=op.ne_blk F Φ;rw[e5,p6,p7];show wpQuiet _ _ _ _ [] _;apply wpQuiet_nil;apply Zu rfl;intro K hK;obtain ⟨⟨z0,z1,z2⟩,g0,g1,g2⟩:=F.three;go_wp2_with fail;have af:Keep (fun q=>q≠g) wi (((wi.setCell ⟨g,0,none⟩ (Yv Yi (Zq {rows:=(j:Int),cols:=(j:Int),cells:=V} X).rows)).setCell ⟨g,1,none⟩ (Yv Yi (Zq {rows:=(j:Int),cols:=(j:Int),cells:=V} X).cols)).setCell ⟨g,2,none⟩ (.slice ap np cp)):=
      kS
     have b4:Blk (((wi.setCell ⟨g,0,none⟩ (Yv Yi (Zq {rows:=(j:Int),cols:=(j:Int),cells:=V} X).rows)).setCell ⟨g,1,none⟩ (Yv Yi (Zq {rows:=(j:Int),cols:=(j:Int),cells:=V} X).cols)).setCell ⟨g,2,none⟩ (.slice ap np cp)) g #[Yv Yi (Zq {rows:=(j:Int),cols:=(j:Int),cells:=V} X).rows,Yv Yi (Zq {rows:=(j:Int),cols:=(j:Int),cells:=V} X).cols, .slice ap np cp] 37:=((F.set 0 _).set 1 _).set 2 _;have f:=hSw.keep af fun q hq=>I;have r4:=(op.keep af fun q hq _ e=>ao (e▸hq)).rdI (S:=fun q=>E.heap.size<=q) (fun q hq=>fp q hq) xp;refine hK _ _ f ?_;clear hK K;generalize bb:(((wi.setCell ⟨g,0,none⟩ (Yv Yi (Zq {rows:=(j:Int),cols:=(j:Int),cells:=V} X).rows)).setCell ⟨g,1,none⟩ (Yv Yi (Zq {rows:=(j:Int),cols:=(j:Int),cells:=V} X).cols)).setCell ⟨g,2,none⟩ (.slice ap np cp))=wz at *;clear bb af z0 z1 z2 g0 g1 g2;refine Zh ?_;refine Ze ?_;clear Y hSw t op e5 p6 p7 F ao;have aq:=an.trans f;have bc:=ZgJ (Zgn {rows:=(j:Int),cols:=(j:Int),cells:=V} X);obtain ⟨⟨e0,e1,e2⟩, -⟩:=b4.three;have br:=b4.lt;have bd:np<=576:=(by rw[←r4.len];exact bc);have r5:=r4.weak (T:=fun _=>True) fun _ _ _=>trivial;cases ZC {rows:=(j:Int),cols:=(j:Int),cells:=V} X with
     |true=>
      go_wp2
      go_ret2
      exact ⟨ap,np,cp,_,0,rfl,r5,bd,aq⟩
     |false=>
      go_wp2
      go_ret2
      exact ⟨_,0,0,[],2,rfl,ZoE rfl,I,aq.alloc _ _⟩

end Go.Proofs.YtgjefeiddfjjnaaGreatDoor
