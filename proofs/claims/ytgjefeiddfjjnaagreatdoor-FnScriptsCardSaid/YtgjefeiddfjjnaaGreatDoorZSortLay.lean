/- The library's sort (slices.SortFunc at valued vectors) as it stands in this program: the numbers of its functions and types; written by the kit's tool lay-plain. -/
import Derived.Shelf.SlSortCmp.WholeK
import Derived.Ground.SlsfProg
import Derived.Test.YtgjefeiddfjjnaaGreatDoorZShP
set_option maxHeartbeats 8000000
set_option maxRecDepth 100000
namespace Go.Proofs.YtgjefeiddfjjnaaGreatDoor
open Go.Shelf
def Zo2:Go.Shelf.Ren:=⟨fun |6=>177|15=>242|14=>241|28=>285|29=>286|20=>277|21=>278|22=>279|23=>280|24=>281|25=>282|26=>283|27=>284|46=>301|47=>302|48=>303|49=>304|50=>305|57=>319|n=>n,fun |22=>136|24=>139|25=>183|3=>3|39=>147|0=>0|53=>234|55=>222|4=>4|46=>247|45=>246|50=>89|5=>5|9=>9|66=>270|70=>265|76=>279|77=>197|n=>n,fun |n=>n⟩
theorem Zvl:Go.Proofs.SlLaysF0.n6 Tryz.prog Zo2:=by repeat' first|kernel_rfl|exact nmE Ξ Ξ|intro _|constructor
end Go.Proofs.YtgjefeiddfjjnaaGreatDoor

namespace Go.Proofs.YtgjefeiddfjjnaaGreatDoor
open Go.RowKit
open Lib (hid)
open Go.Value renaming int->Yv
open Go.IntKind renaming i64->Yi
open _root_.Array renaming extract_eq_self_of_le->QI,getElem?_eq_getElem->NA,getElem?_eq_none->O3,getElem?_eq_some_iff->LG,getElem?_modify->NB,getElem?_toList->N9
open Classical renaming choose->QH,choose_spec->M5
open Grow renaming refl->JH
open Lib renaming itoa->JK
open List renaming cons_append->Kf,ext_getElem?->Mh,flatMap_cons->Ot,getD_eq_getElem?_getD->Kr,getElem?_eq_getElem->JR,getElem?_eq_none->K3,getElem?_map->KG,getElem_mem->K7,length_append->JY,map_cons->JV,map_nil->Kj,mem_append->Kg,mem_cons->JU,mem_map->Kc,mem_of_getElem?->JX,nil_append->Ka,not_mem_nil->Kl,range->JN,setIfInBounds_toArray->KP,set_cons_succ->KC,set_cons_zero->KL,zip_cons_cons->KX,zip_nil_right->KY
open Nat renaming le_refl->JM,zero_le->JI
open Option.some renaming inj->JJ
open Go.Proofs.Tryz renaming func120->LK,func178->O4,ntmps178->QG,prog->JG
open Go.Proofs.Tryz
variable {Q:List Int->Prop} {S T:Nat->Prop} {a:Option Addr} {c g n:Nat} {es:List (Value×Int)} {m:Mat} {w w':World} {α:Type}
theorem ZvZ:SlT JG 136 139 (.agg #[.slice none 0 0,Yv Yi 0]) 2 32:=SlT.mk' underlying136 Ξ rfl
def vcE (e:Value×Int):List Value:=[e.1,Yv Yi e.2]
def vcs (es:List (Value×Int)):List Value:=es.flatMap vcE
theorem ZhH {α β:Type} {f:α->List β} (hf: ∀ x,(f x).length=2): ∀ (l:List α) (t:Nat),(l.flatMap f)[t]? =(l[t/2]?).bind fun x=>(f x)[t%2]?
 |[],t=>Θ
 |x::r,t=>by
  rw[Ot];by_cases h:t<2
  ·rw[List.getElem?_append_left (by rw[hf];exact h),show t/2=0 by omega,show t%2=t by omega];rfl
  ·rw[List.getElem?_append_right (by rw[hf];omega),hf,ZhH hf r (t-2),show t/2=(t-2)/2+1 by omega,show t%2=(t-2)%2 by omega];rfl
theorem Zjx (e:Value×Int):(vcE e).length=2:=rfl
theorem Zjw (es:List (Value×Int)):(vcs es).length=es.length*2:=by
 unfold vcs;induction es with
 |nil=>rfl
 |cons e r a=>rw[Ot,JY,a,Zjx,List.length_cons];omega
theorem ZuT {k:Nat} {e:Value×Int} (h:es[k]? =some e):(vcs es)[k*2]? =some e.1/\(vcs es)[k*2+1]? =some (Yv Yi e.2):=by
 unfold vcs;rw[ZhH Zjx,ZhH Zjx,show k*2/2=k by omega,show (k*2+1)/2=k by omega,show k*2%2=0 by omega,show (k*2+1)%2=1 by omega,h];exact Je
theorem Zql [Inhabited α] {enc:α->List Value} (hk: ∀ x,(enc x).length=2) (d:Array α):(Go.Sort.flatK enc 2 d).toList=d.toList.flatMap enc:=by
 refine Mh fun t=> ?_;rw[ZhH hk,N9,N9];by_cases h:t<d.size*2
 ·rw[NA (by rw[Go.Sort.size_flatK];exact h),NA (show t/2<d.size by omega),Option.bind_some];have:=Go.Sort.get_flatK enc 2 d t h;rw[getElem!_pos _ t (by rw[Go.Sort.size_flatK];exact h),getElem!_pos d (t/2) I] at this;rw[this,getElem!_pos _ (t%2) (by rw[hk];omega),JR]
 ·rw[O3 (by rw[Go.Sort.size_flatK];omega),O3 I];rfl
section
variable {w:World} {blk m:Nat} {dk:Array Value} {os:Array Obj}
theorem Zk6:Keep (fun q=>q≠blk) w (Go.Sort.grow (Go.Sort.putRow id (Go.Sort.ahead w m) blk 0 dk) os):=by
 have a:(Go.Sort.putRow id (Go.Sort.ahead w m) blk 0 dk).heap.size=w.heap.size:=Go.Sort.size_putRow _ _ _ _ _;refine ⟨rfl,rfl,rfl, ?_,fun x c=> ?_,fun k d b=> ?_⟩
 ·rw[Go.Sort.size_grow,a];omega
 ·rw[Go.Sort.frozen?_grow _ _ _ (by rw[a];exact c),Go.Sort.frozen?_putRow];rfl
 ·rw[Go.Sort.heap_grow_old _ _ (by rw[a];exact d)];unfold Go.Sort.putRow Go.Sort.mapBlock;rw[NB,if_neg (fun e=>b e.symm)];rfl
theorem Zr8 {cur:Array Value} {e:TypeId} {fr:Nat×Nat} (hb:w.heap[blk]? =some (.cells cur e fr)):
  (Go.Sort.grow (Go.Sort.putRow id (Go.Sort.ahead w m) blk 0 dk) os).heap[blk]? =some (.cells (Go.Sort.putCells id 0 dk cur) e fr):=by
 have a:=(LG.1 hb).1;rw[Go.Sort.heap_grow_old _ _ (by rw[Go.Sort.size_putRow];exact a)];unfold Go.Sort.putRow Go.Sort.mapBlock;rw[NB,if_pos rfl];show (w.heap[blk]?).map _=_;rw[hb];rfl
theorem ZqY {cur:Array Value} (h:dk.size<=cur.size):(Go.Sort.putCells id 0 dk cur).toList.take dk.size=dk.toList:=by
 refine Mh fun k=> ?_;unfold Go.Sort.putCells;by_cases a:k<dk.size
 ·rw[List.getElem?_take_of_lt a,N9,Array.getElem?_mapIdx,N9];rw[NA I,NA a];simp[a]
 ·rw[K3 Ψ,K3 Ψ]
end
theorem Zlt: ∀ xs ys zs:List Int,(cmpL xs ys<0->cmpL ys zs<0->cmpL xs zs<0)/\(0<=cmpL xs ys->0<=cmpL ys zs->0<=cmpL xs zs)
 |[],[],[]=>DF
 |[],[],_::_=>DF
 |[],_::_,[]=>DF
 |[],_::_,_::_=>DF
 |_::_,[],[]=>DF
 |_::_,[],_::_=>DF
 |_::_,_::_,[]=>DF
 |x::xs,y::ys,z::zs=>by
  have ih:=Zlt xs ys zs;simp only[cmpL];by_cases h1:x=y
  ·subst h1;by_cases h2:x=z
   ·subst h2;simpa using ih
   ·rw[if_pos rfl,if_neg h2,if_neg h2];exact ⟨fun _ h=>h,fun _ h=>h⟩
  ·rw[if_neg h1];by_cases h2:y=z
   ·subst h2;rw[if_pos rfl,if_neg h1];exact ⟨fun h _=>h,fun h _=>h⟩
   ·rw[if_neg h2];by_cases h3:x=z
    ·subst h3;rw[if_pos rfl];exact ⟨fun h4 h5=>by split at h4<;>split at h5<;>omega,fun h4 h5=>by split at h4<;>split at h5<;>omega⟩
    ·rw[if_neg h3];exact ⟨fun h4 h5=>by split at h4<;>split at h5<;>split<;>omega,fun h4 h5=>by split at h4<;>split at h5<;>split<;>omega⟩
theorem Zl5: ∀ xs:List Int,cmpL xs xs=0
 |[]=>rfl
 |x::xs=>by simp only[cmpL,if_true];exact Zl5 xs
def Zf7 (p q:Int) (xs ys:List Int):Int:=if p=q then cmpL xs ys else p-q
theorem ZuU {nn:Nat->Int} {lst:Nat->List Int}:Go.Sort.SWO (Go.Proofs.ltOf fun x y:Nat=>Zf7 (nn x) (nn y) (lst x) (lst y)) where
 irrefl x:=by unfold Go.Proofs.ltOf Zf7;simp[Zl5]
 trans x y z h1 h2:=by have:=Zlt (lst x) (lst y) (lst z);unfold Go.Proofs.ltOf Zf7 at *;simp only[decide_eq_true_eq] at *;split at h1<;>split at h2<;>split<;>first |omega|exact this.1 h1 h2
 ntrans x y z h1 h2:=by have:=Zlt (lst x) (lst y) (lst z);unfold Go.Proofs.ltOf Zf7 at *;simp only[decide_eq_false_iff_not,Int.not_lt] at *;split at h1<;>split at h2<;>split<;>first |omega|exact this.2 h1 h2
theorem Zv3 (a b:Option Addr) (n m c c':Nat) (xs ys:List Int) (p q:Int) (w:World) (h:RdI w S a n c xs) (h':RdI w T b m c' ys) (hp:0<=p/\p<=10000) (hq:0<=q/\q<=10000) (hn:n<=2097152) (hm:m<=2097152):
  Calls JG 178 #[.agg #[.slice a n c,Yv Yi p], .agg #[.slice b m c',Yv Yi q]] w fun e w'=>e= .returned (Yv Yi (Zf7 p q xs ys))/\ ∃ k os',w'=Go.Sort.grow (w.drewN k) os':=by
 have g: ∀ w',Grow w w'->Calls JG 179 #[.slice a n c, .slice b m c'] w' fun e d=>e= .returned (Yv Yi (cmpL xs ys))/\w'=d:=fun w' i=>Zqq a b n m c c' xs ys w' (h.grow i) (h'.grow i) hn hm;have u1:wrap64 (p-q)=p-q:=θ
 clear h h';by_cases e:p=q
 ·subst e;have f:=hid (show Zf7 p p xs ys=cmpL xs ys by unfold Zf7;rw[if_pos rfl]);go_enter O4,QG;go_wp2_with fail;refine (g _ (((JH _).alloc _ _).alloc _ _)).mono ?_;rintro e w' ⟨rfl,rfl⟩;go_wp2;go_ret;exact ⟨ZJ f.out.symm,0,_,DK⟩
 ·have f:=hid (show Zf7 p q xs ys=p-q by unfold Zf7;rw[if_neg e]);clear g;go_enter O4,QG;go_wp2;go_ret;exact ⟨ZJ f.out.symm,0,_,DK⟩
theorem ZjL (l:List α) (z:α):(JN l.length).map (fun i=>l.getD i z)=l:=by
 refine Mh fun k=> ?_;by_cases a:k<l.length
 ·rw[KG,List.getElem?_range a];simp[a]
 ·rw[K3 Ψ,K3 I]
def VlC (w:World) (S:Nat->Prop) (Q:List Int->Prop) (es:List (Value×Int)):Prop:= ∀ e∈es, ∃ b c v,e.1= .slice b v.length c/\RdI w S b v.length c v/\v.length<=2097152/\Q v/\0<=e.2/\e.2<=10000
theorem VlC.keep (h:VlC w S Q es) (hk:Keep T w w') (hST: ∀ b,b<w.heap.size->S b->T b):VlC w' S Q es:=fun e a=>by
 obtain ⟨b,c,v,d,f,g⟩:=h e a;exact ⟨b,c,v,d,f.keep hk hST,g⟩
theorem VlC.weak (h:VlC w S Q es) (hST: ∀ b,b<w.heap.size->S b->T b):VlC w T Q es:=fun e a=>by
 obtain ⟨b,c,v,d,f,g⟩:=h e a;exact ⟨b,c,v,d,f.weak hST,g⟩
theorem Zqg (g n cap:Nat) (es:List (Value×Int)) (w:World) (h:Own w 139 2 (some ⟨g,0,none⟩) n cap (vcs es)) (hE:VlC w (fun q=>q≠g) Q es) (hn:n<=1048576):
  Calls JG 177 #[.slice (some ⟨g,0,none⟩) n cap, .func (.func 178) #[] #[]] w fun e w'=>
   e= .returned (.tuple #[])/\ ∃ es':List (Value×Int),Own w' 139 2 (some ⟨g,0,none⟩) n cap (vcs es')/\VlC w' (fun q=>q≠g) Q es'/\Keep (fun q=>q≠g) w w':=by
 have D:es.length=n:=by have:=h.len;rw[Zjw] at this;omega
 obtain ⟨_,cur,l,P,R⟩:=h.block _ rfl;have E:=(LG.1 l).1;obtain ⟨a,z⟩: ∃ a:Nat->Value×Int,a=fun i=>es.getD i (.slice none 0 0,0):=⟨_,rfl⟩;have S: ∀ x, ∃ b c v,a x=(.slice b v.length c,(a x).2)/\RdI w (fun q=>q≠g) b v.length c v/\v.length<=2097152/\0<=(a x).2/\(a x).2<=10000:=fun x=>by
  by_cases N:x<es.length
  ·have A:a x=es[x]:=(by rw[z];simp[Kr,N]);obtain ⟨b,c,v,h1,h2,h3, -,h4⟩:=hE _ (K7 N);rw[A];exact ⟨b,c,v,by rw[←h1],h2,h3,h4⟩
  ·have A:a x=(.slice none 0 0,0):=(by rw[z];simp[Kr,K3 (show es.length<=x by omega)]);rw[A];exact ⟨none,0,[],rfl,RdI.nilw _,Θ,Θ,Θ⟩
 obtain ⟨f,k⟩: ∃ f:Nat->List Int, ∀ x, ∃ b c,a x=(.slice b (f x).length c,(a x).2)/\RdI w (fun q=>q≠g) b (f x).length c (f x)/\(f x).length<=2097152/\0<=(a x).2/\(a x).2<=10000:=by have:=fun x=>(S x);refine ⟨fun x=>QH (M5 (M5 (this x))),fun x=>⟨_,_,M5 (M5 (M5 (this x)))⟩⟩
 have eg: ∀ o w,(callFunc 178 o).run JG w= .ok (.enter 178 o) w:=Go.Proofs.enters_of O4 Ξ rfl;have F:Go.Proofs.CmpLays JG 178 #[] (fun x:Nat=>vcE (a x)) 2 (fun x y:Nat=>Zf7 (a x).2 (a y).2 (f x) (f y)) g 0 (JN n).toArray.size w:=fun mm os dk aa x y=>by
  obtain ⟨b1,c1,A,r1,l1,T,p2⟩:=k x;obtain ⟨b2,c2,e2,r2,l2,q1,q2⟩:=k y;have hK:=Zk6 (w:=w) (blk:=g) (m:=mm) (dk:=Go.Sort.flatK (fun x:Nat=>vcE (a x)) 2 dk) (os:=os);have e3:(vcE (a x)).toArray= #[.slice b1 (f x).length c1,Yv Yi (a x).2]:=by unfold vcE;rw[A]
  have e4:(vcE (a y)).toArray= #[.slice b2 (f y).length c2,Yv Yi (a y).2]:=by unfold vcE;rw[e2]
  rw[e3,e4];exact Zv3 _ _ _ _ _ _ (f x) (f y) _ _ _ (r1.keep hK fun _ _ G=>G) (r2.keep hK fun _ _ G=>G) ⟨T,p2⟩ ⟨q1,q2⟩ l1 l2
 have H: ∀ d:Array Nat,(Go.Sort.flatK (fun x:Nat=>vcE (a x)) 2 d).toList=vcs (d.toList.map a):=fun d=>by rw[Zql (fun x=>Zjx _),vcs,List.flatMap_map]
 have r:(JN n).map a=es:=by rw[z, ←D];exact ZjL es _
 have hH:Go.Sort.HoldsK (fun x:Nat=>vcE (a x)) 2 w g 0 (JN n).toArray:=fun j V=>by
  rw[Go.Sort.size_flatK] at V;have W:j<(vcs es).length:=by rw[Zjw,D];simpa using V
  have A:(Go.Sort.flatK (fun x:Nat=>vcE (a x)) 2 (JN n).toArray)[j]! =(vcs es)[j]:=by rw[getElem!_pos _ j (by rw[Go.Sort.size_flatK];exact V), ←Array.getElem_toList];have:=H (JN n).toArray;rw[List.toList_toArray,r] at this;simp only[this]
  rw[A,Nat.zero_add];exact ⟨h.cell (JR W),h.free j⟩
 have s:=Go.Proofs.AnyQ.slices_SortFunc Zvl 2 isAgg139 sizeOf139 (fun x:Nat=>vcE (a x)) (fun _=>rfl) (fun x v O=>by
  obtain ⟨b,c,e, -⟩:=k x;unfold vcE at O;rw[e] at O;simp at O;rcases O with rfl|rfl<;>rfl) (fun x y:Nat=>Zf7 (a x).2 (a y).2 (f x) (f y)) ZuU 178 #[] g 0 cap (JN n).toArray w eg F hH E Ψ
 have J:(JN n).toArray.size=n:=Θ
 rw[J] at s;refine Calls.mono s ?_;rintro e w' ⟨rfl,C,q,os,X, -,rfl⟩;obtain ⟨T,_,Z⟩:=X;have L:C.size=n:=by rw[T,J]
 have B:C.toList.Perm (JN n):=by rw[QI I,QI I] at Z;simpa using Z
 have hK:=Zk6 (w:=w) (blk:=g) (m:=q) (dk:=Go.Sort.flatK (fun x:Nat=>vcE (a x)) 2 C) (os:=os);have t:(Go.Sort.flatK (fun x:Nat=>vcE (a x)) 2 C).size=n*2:=by rw[Go.Sort.size_flatK,L]
 have ab:=h.le;refine ⟨rfl,C.toList.map a,⟨by rw[Zjw];simp[L],h.le,h.max,(fun h=>Ω),fun p X=> ?_⟩,fun e he=> ?_,hK⟩
 ·obtain rfl:=JJ X;refine ⟨rfl,_,Zr8 l, ?_, ?_⟩
  ·unfold Go.Sort.putCells;simpa using P
  ·have:=ZqY (dk:=Go.Sort.flatK (fun x:Nat=>vcE (a x)) 2 C) (cur:=cur) (by rw[t];omega);rw[t,H] at this;exact this
 ·obtain ⟨x,N,rfl⟩:=Kc.1 he;have Y:x<n:=by simpa using B.mem_iff.1 N
  have M:a x∈es:=by rw[←r];exact Kc.2 ⟨x,by simpa using Y,rfl⟩
  exact (hE.keep hK fun _ _ G=>G) _ M
theorem Zly (g n cap:Nat) (es:List (Value×Int)) (w:World) (h:Own w 139 2 (some ⟨g,0,none⟩) n cap (vcs es)) (hE:VlC w (fun q=>q≠g) Q es) (hn:n<=4000):
  Calls JG 117 #[.slice (some ⟨g,0,none⟩) n cap] w fun e w'=> ∃ a' c' rows,e= .returned (.slice a' n c')/\RdII w' (fun _=>True) a' n c' rows/\(∀ v∈rows,Q v)/\Keep (fun q=>q≠g) w w':=by
 go_enter func117,ntmps117;go_wp2_with fail;refine (Zqg g n cap es w h hE I).mono ?_;rintro e C ⟨rfl,a,D,r,F⟩;have s:a.length=n:=by have:=D.len;rw[Zjw] at this;omega
 have aa:=D.lt (g:=g) rfl;clear h hE;go_wp2;go_loopw [3,11] (fun o i wr=>Grow C wr/\ ∃ (k G:Nat) (E:Option Addr),k<=n/\i=Yv Yi k/\o= .slice E k G/\Own wr 35 1 E k G ((a.take k).map fun e=>e.1)/\(∀ q,blk E=some q->C.heap.size<=q)) (fun _ i _=>n-(intOf i).toNat);case atStart=>exact ⟨(JH _).alloc _ _,0,0,_,JI _,rfl,rfl,Own.fresh Γ rfl,fun q hq=>ψ⟩
 case round=>
  obtain ⟨j,k,G,E,hk,rfl,rfl,H,R⟩:=hrel;by_cases ab:k<n
  ·have l:a[k]? =some a[k]:=JR I;obtain ⟨b,c,v,J, -⟩:=r _ (K7 (show k<a.length by omega));obtain ⟨T,V⟩:=ZuT l;have W:=(D.grow j).cell T;have x1:=(D.grow j).cell V;rw[J] at W;have hT:=hid (show (a.take (k+1)).map (fun e=>e.1)=(a.take k).map (fun e=>e.1)++[.slice b v.length c] by rw[ZH l,List.map_append, ←J];rfl);have ad:g<wr.heap.size:=(by have:=j.size;omega);generalize a[k].2=y at *;simp only at W x1;clear l T V J;have t:Grow wr ((wr.alloc (.cells #[.slice b v.length c,Yv Yi y] 139)).alloc (.cells #[.slice b v.length c] 35)):=((JH _).alloc _ _).alloc _ _;go_wp2_with (at_builtin;refine ZD rfl (.tmp 15) (.tmp 18) _ rfl Zlo rfl (H.grow t) rfl (Row.builtAt (S:=fun _=>True) 1 Θ Γ rfl fun _=>trivial) γ I Γ ?_;intro X Y Z d);have L:Grow C Z:=d.grow (j.trans t) R;have M:Own Z 35 1 X (k+1) Y ((a.take (k+1)).map fun e=>e.1):=(by have:=d.own;rw[hT.out];simpa using this);have N:=d.lo (B:=C.heap.size) (by have:=j.size;simp;omega) R;clear d;go_wp2;go_roundw;case rel=>exact ⟨L,k+1,Y,X,I,Δ,rfl,M,N⟩
   case measure=>exact FN
  ·obtain rfl:k=n:=I;rw[Z5 s] at H;go_wp2;go_ret;have O: ∃ rows:List (List Int),rows.length=k/\ ∀ (i:Nat) (v:List Int),rows[i]? =some v-> ∃ b c,(a.map fun e=>e.1)[i]? =some (Value.slice b v.length c)/\RdI wr (fun _=>True) b v.length c v/\Q v:=by
    obtain ⟨f,hf⟩: ∃ f:Value×Int->List Int, ∀ e∈a, ∃ b c,e.1= .slice b (f e).length c/\RdI wr (fun _=>True) b (f e).length c (f e)/\Q (f e):=by
     have h0: ∀ e, ∃ v:List Int,e∈a-> ∃ b c,e.1= .slice b v.length c/\RdI wr (fun _=>True) b v.length c v/\Q v:=fun e=>by
      by_cases m:e∈a
      ·obtain ⟨b,c,v,x,z,h3,h4,h5⟩:=r e m;exact ⟨v,fun _=>⟨b,c,x,(z.grow j).weak fun _ _ _=>trivial,h4⟩⟩
      ·exact ⟨[],fun h=>(m h).elim⟩
     exact ⟨fun e=>QH (h0 e),fun e m=>M5 (h0 e) m⟩
    refine ⟨a.map f,by simpa using s,fun i v p=> ?_⟩;rw[KG] at p ⊢;obtain ⟨e,m,rfl⟩:=Option.map_eq_some_iff.1 p;obtain ⟨b,c,x,z⟩:=hf e (JX m);exact ⟨b,c,by rw[m, ←x];rfl,z⟩
   obtain ⟨rows,P,A⟩:=O;exact ⟨_,_,rows,rfl,⟨⟨_,H.row fun _ _=>trivial,fun i v p=>by obtain ⟨b,c,x,z, -⟩:=A i v p;exact ⟨b,c,x,z⟩⟩,P⟩,(fun v p=>by obtain ⟨i,hi⟩:=List.mem_iff_getElem?.1 p;obtain ⟨b,c, -, -,h3⟩:=A i v hi;exact h3),F.trans (j.any.mono fun _ _ _=>trivial)⟩
def RowPost (B:Nat) (X A:Mat):Nat->Value->World->Prop
 |1,v,w=>OM w (fun g=>B<=g) v X
 |3,v,w=> ∃ y,v= .tuple #[y, .bool (ZC X A)]/\OM w (fun g=>B<=g) y (Zq X A)
 |4,v,w=> ∃ y,v= .tuple #[y, .bool (ZC X A)]/\OM w (fun g=>B<=g) y (Zq X A)
 |5,v,w=>OM w (fun g=>B<=g) v (Zq X A)
 |6,v,_=>v= .bool (ZC X A)
 |7,v,w=> ∃ g,v= .pointer (some ⟨g,0,none⟩)/\B<=g/\Blk w g #[Yv Yi 0,Yv Yi 0, .slice none 0 0] 37
 |_,_,_=>True
theorem RowPost.stays {z:Nat} {A B:Mat}: ∀ i v w w',Grow w w'->RowPost z A B i v w->RowPost z A B i v w':=fun i v w w' hG h=>by
 unfold RowPost at *;split at h
 ·exact h.grow hG
 ·exact GJ
 ·exact GJ
 ·exact h.grow hG
 ·exact h
 ·exact Gy
 ·trivial
theorem Zsb {xa:Option Addr} {xn xc:Nat} {xs:List Int} (h:RdI w S a n c m.cells) (hr:I64 m.rows) (hc:I64 m.cols) (hb:m.cells.length<=1048576) (hX:RdI w T xa xn xc xs) (hxn:xn<=24):
  Calls JG 116 #[.agg #[Yv Yi m.rows,Yv Yi m.cols, .slice a n c], .slice xa xn xc] w fun e w'=> ∃ r ok,e= .returned (.tuple #[Yv Yi r, .bool ok])/\Grow w w':=by
 have av:=hX.len;obtain ⟨w1,Z,V,bM, -⟩:=al1 w #[Yv Yi m.rows,Yv Yi m.cols, .slice a n c] 37;have vM:VM w1 S (.agg #[Yv Yi m.rows,Yv Yi m.cols, .slice a n c]) m:=⟨a,n,c,rfl,h.grow V,hr,hc⟩;obtain ⟨⟨m0,m1,m2⟩, -⟩:=bM.three;have B:=bM.lt;rw[Z] at m0 m1 m2 B;have ai:=hid Z;clear Z;go_enter func116,ntmps116;go_wp2_with fail;rw[←ai.out];clear m0 m1 m2 B;refine (ZmA vM Bq).mono ?_;rintro e w2 ⟨rfl,J⟩;have D:=V.trans J;cases L:Za7 m with
 |false=>
  clear L;go_wp2
  go_ret2
  exact ⟨_,_,rfl,D⟩
 |true=>
  obtain ⟨N,ae,aj,hN,hl,af⟩:=Zdq (show ZZ m=true by unfold Za7 at L;rw[Bool.and_eq_true] at L;exact L.1);have M:=bM.grow J;obtain ⟨⟨m0,m1,m2⟩, -⟩:=M.three;have B:=M.lt;rw[ae] at m0;clear L;by_cases l:xn=N
  ·subst l;have ag:=vM.grow J;have rX:=(hX.grow D).weak (T:=fun _=>True) fun _ _ _=>trivial;have aw:xn*xn<=6*6:=Nat.mul_le_mul hN hN;rw[ae,aj] at M ag;obtain ⟨A,hA⟩: ∃ A:Mat,A={rows:=(xn:Int),cols:=(xn:Int),cells:=m.cells}:=⟨_,rfl⟩;have vA:VM w2 S (.agg #[Yv Yi (xn:Int),Yv Yi (xn:Int), .slice a n c]) A:=(by rw[hA];exact ⟨a,n,c,rfl,(h.grow V).grow J,Ck,Ck⟩);have hbA:bdM A<=2097152:=(by rw[hA];unfold bdM;simp only;omega);obtain ⟨P,rfl⟩:=eX w2;have b2:=M;clear hA hX h vM ag V J af bM;go_wp2;have hbX:bdM (Zlv xs)<=2097152:=DA;obtain ⟨X,hX⟩:=eX (Zlv xs);rw[←hX] at hbX;have HX:=hid hX;clear hX;refine Zai (S:=Grow P) (T:=fun _=>True) [0,2] [1,3,7] [4,5,6] [([],some 8),([9],none)] ZaB Ξ (fun _ _ _ _ _ h=>h) (JH _).drew ?_;refine Zh ?_;refine ⟨Ξ,RowPost P.heap.size X A,fun _ _=>none,RowPost.stays,(fun _ _ _ _ _ h=>Ω),(fun _ _ _=>rfl), ?_, ?_, ?_⟩
   ·intro i O o ho b wi p hSw d s K hK;have aa:b.tmps.getD 23 undef= .agg #[Yv Yi (xn:Int),Yv Yi (xn:Int), .slice a n c]:=s 23 Φ;have ab:b.tmps.getD 21 undef= .slice xa xn xc:=s 21 Φ;have hs2:=hSw.size;simp only[JU,Kl,or_false] at O;rcases O with rfl|rfl|rfl
    ·obtain rfl:=oI ho;refine Zdx (x:= .tmp 21) rfl func176 rfl rfl ab ?_;refine (Zpd _ _ _ xs _ (rX.grow hSw) I).mono ?_;rintro e wi ⟨y,rfl,hO,hG3⟩;exact ⟨y,rfl,hK y wi hG3 (hSw.trans hG3) A8 (fun _ h=>Ω)⟩
    ·obtain rfl:=oI ho;have d1:OM wi (fun g=>P.heap.size<=g) (b.tmps.getD 22 undef) X:=d 1 Φ ⟨⟨1, .data⟩,Θ,rfl,rfl⟩ 22 rfl;refine Zbr (x:= .tmp 22) (y:= .tmp 23) rfl LK rfl rfl rfl aa ?_;refine (Zdu (d1.rd (S:=fun _=>True) fun _ _=>trivial) (vA.grow hSw) hbX hbA).mono ?_;rintro e wi ⟨y,rfl,hO,hG3⟩;exact ⟨_,rfl,hK _ wi hG3 (hSw.trans hG3) ⟨y,rfl,hO.weak fun b _ hb=>Nat.le_trans hs2 hb.1⟩ (fun _ h=>Ω)⟩
    ·exact FW
   ·intro i O o ho b wi p hSw d s;simp only[JU,Kl,or_false] at O;rcases O with rfl|rfl|rfl
    ·obtain rfl:=oI ho;have d3: ∃ y,b.tmps.getD 24 undef= .tuple #[y, .bool (ZC X A)]/\OM wi (fun g=>P.heap.size<=g) y (Zq X A):=d 3 Φ ⟨⟨3, .data⟩,Θ,rfl,rfl⟩ 24 rfl;exact ⟨b.tmps.getD 24 undef,fun _ _=>rfl,d3⟩
    ·obtain rfl:=oI ho;obtain ⟨y,e4,hO⟩: ∃ y,b.tmps.getD 20 undef= .tuple #[y, .bool (ZC X A)]/\OM wi (fun g=>P.heap.size<=g) y (Zq X A):=d 4 Φ ⟨⟨4, .data⟩,Θ,rfl,rfl⟩ 20 rfl;exact ⟨y,fun w' _=>ZP (x:= .tmp 20) rfl e4 rfl w',hO⟩
    ·obtain rfl:=oI ho;obtain ⟨y,e4,hO⟩: ∃ y,b.tmps.getD 20 undef= .tuple #[y, .bool (ZC X A)]/\OM wi (fun g=>P.heap.size<=g) y (Zq X A):=d 4 Φ ⟨⟨4, .data⟩,Θ,rfl,rfl⟩ 20 rfl;exact ⟨.bool (ZC X A),fun w' _=>ZP (x:= .tmp 20) rfl e4 rfl w',rfl⟩
   intro vs wi p hSw W _;apply ZbU
   ·show _=([some 22,some 24,some 6,some 20,some 25,some 26]:List (Option Tmp))
    kernel_rfl
   simp only[Zdm,Kf,Ka,JV,Kj,KX,KY,Act.put,KP,KC,KL];refine ⟨?_⟩;have p5:OM wi (fun g=>P.heap.size<=g) (vs 5) (Zq X A):=W 5 Φ;have p6:vs 6= .bool (ZC X A):=W 6 Φ;obtain ⟨g,p7,ak,j⟩: ∃ g,vs 7= .pointer (some ⟨g,0,none⟩)/\P.heap.size<=g/\Blk wi g #[Yv Yi 0,Yv Yi 0, .slice none 0 0] 37:=W 7 Φ;obtain ⟨G,E,H,e5,op,xp,fp,ip,jp⟩:=p5;have l:=op.ne_blk j Φ;rw[e5,p6,p7];show wpQuiet _ _ _ _ [] _;apply wpQuiet_nil;apply Zu rfl;intro K hK;obtain ⟨⟨z0,z1,z2⟩,g0,g1,g2⟩:=j.three;go_wp2_with fail;have t:Keep (fun q=>q≠g) wi (((wi.setCell ⟨g,0,none⟩ (Yv Yi (Zq X A).rows)).setCell ⟨g,1,none⟩ (Yv Yi (Zq X A).cols)).setCell ⟨g,2,none⟩ (.slice G E H)):=
    kS
   have b4:Blk (((wi.setCell ⟨g,0,none⟩ (Yv Yi (Zq X A).rows)).setCell ⟨g,1,none⟩ (Yv Yi (Zq X A).cols)).setCell ⟨g,2,none⟩ (.slice G E H)) g #[Yv Yi (Zq X A).rows,Yv Yi (Zq X A).cols, .slice G E H] 37:=((j.set 0 _).set 1 _).set 2 _;have f:=hSw.keep t fun q Y=>I;have r4:=(op.keep t fun q Y _ e=>l (e▸Y)).rdI (S:=fun q=>P.heap.size<=q) (fun q Y=>fp q Y) xp;refine hK _ _ f ?_;clear hK K;generalize ad:(((wi.setCell ⟨g,0,none⟩ (Yv Yi (Zq X A).rows)).setCell ⟨g,1,none⟩ (Yv Yi (Zq X A).cols)).setCell ⟨g,2,none⟩ (.slice G E H))=wz at *;clear ad t z0 z1 z2 g0 g1 g2;refine Zh ?_;refine Ze ?_;clear W hSw p op e5 p6 p7 j l;have F:=D.trans f;have ax:=ZgJ (Zgn X A);obtain ⟨R,C,er,ec,hR,hC, -, -⟩:=Zl (Zgn X A);cases v:ZC X A with
   |false=>
    clear v;go_wp2
    go_ret2
    exact ⟨_,_,rfl,F⟩
   |true=>
    have ay:(Zq X A).rows=1:=(by rw[(ZhW v).1,HX.out];rfl);clear v HX hbX;generalize Zq X A=Q at *;rw[er,ec] at b4;have vQ:VM wz (fun q=>P.heap.size<=q) (.agg #[Yv Yi (R:Int),Yv Yi (C:Int), .slice G E H]) Q:=(by rw[←er, ←ec];exact ⟨G,E,H,rfl,r4,by rw[er];unfold I64;omega,by rw[ec];unfold I64;omega⟩);have ah:=rX.grow f;clear vA hbA X b2 rX M f r4 m0 m1 m2 B;have vA:=vQ;have hbA:bdM Q<=2097152:=I;have b2:=b4;have rX:=ah;clear vQ ah;have al:=F;clear F;obtain ⟨k,rfl⟩:=eX wz;go_wp2;have hbX:bdM (Zgk xs)<=2097152:=DA;obtain ⟨X,hX⟩:=eX (Zgk xs);rw[←hX] at hbX;have HX:=hid hX;clear hX;refine Zai (S:=Grow k) (T:=fun _=>True) [0,1] [2,3,7] [4,5,6] [([],some 8),([9],none)] ZaB Ξ (fun _ _ _ _ _ h=>h) (JH _).drew ?_;refine Zh ?_;refine ⟨Ξ,ColPost k.heap.size Q X,fun _ _=>none,ColPost.stays,(fun _ _ _ _ _ h=>Ω),(fun _ _ _=>rfl), ?_, ?_, ?_⟩
    ·intro i O o ho b wi p hSw d s K hK;have aa:b.tmps.getD 30 undef= .agg #[Yv Yi (R:Int),Yv Yi (C:Int), .slice G E H]:=s 30 Φ;have ab:b.tmps.getD 31 undef= .slice xa xn xc:=s 31 Φ;have hs2:=hSw.size;simp only[JU,Kl,or_false] at O;rcases O with rfl|rfl|rfl
     ·obtain rfl:=oI ho;refine Zdx (x:= .tmp 31) rfl func121 rfl rfl ab ?_;exact GN
     ·obtain rfl:=oI ho;have d1:OM wi (fun g=>k.heap.size<=g) (b.tmps.getD 32 undef) X:=d 2 Φ ⟨⟨2, .data⟩,Θ,rfl,rfl⟩ 32 rfl;refine Zbr (x:= .tmp 30) (y:= .tmp 32) rfl LK rfl rfl aa rfl ?_;exact Gx
     ·exact FW
    ·intro i O o ho b wi p hSw d s;simp only[JU,Kl,or_false] at O;rcases O with rfl|rfl|rfl
     ·obtain rfl:=oI ho;have d3: ∃ y,b.tmps.getD 33 undef= .tuple #[y, .bool (ZC Q X)]/\OM wi (fun g=>k.heap.size<=g) y (Zq Q X):=d 3 Φ ⟨⟨3, .data⟩,Θ,rfl,rfl⟩ 33 rfl;exact ⟨b.tmps.getD 33 undef,fun _ _=>rfl,d3⟩
     ·obtain rfl:=oI ho;obtain ⟨y,e4,hO⟩: ∃ y,b.tmps.getD 29 undef= .tuple #[y, .bool (ZC Q X)]/\OM wi (fun g=>k.heap.size<=g) y (Zq Q X):=d 4 Φ ⟨⟨4, .data⟩,Θ,rfl,rfl⟩ 29 rfl;exact ⟨y,fun w' _=>ZP (x:= .tmp 29) rfl e4 rfl w',hO⟩
     ·obtain rfl:=oI ho;obtain ⟨y,e4,hO⟩: ∃ y,b.tmps.getD 29 undef= .tuple #[y, .bool (ZC Q X)]/\OM wi (fun g=>k.heap.size<=g) y (Zq Q X):=d 4 Φ ⟨⟨4, .data⟩,Θ,rfl,rfl⟩ 29 rfl;exact ⟨.bool (ZC Q X),fun w' _=>ZP (x:= .tmp 29) rfl e4 rfl w',rfl⟩
    intro vs wi p hSw W _;apply ZbU
    ·show _=([some 32,some 33,some 8,some 29,some 34,some 35]:List (Option Tmp))
     kernel_rfl
    simp only[Zdm,Kf,Ka,JV,Kj,KX,KY,Act.put,KP,KC,KL];refine ⟨?_⟩;have p5:OM wi (fun g=>k.heap.size<=g) (vs 5) (Zq Q X):=W 5 Φ;have p6:vs 6= .bool (ZC Q X):=W 6 Φ;obtain ⟨g,p7,ak,j⟩: ∃ g,vs 7= .pointer (some ⟨g,0,none⟩)/\k.heap.size<=g/\Blk wi g #[Yv Yi 0,Yv Yi 0, .slice none 0 0] 37:=W 7 Φ;obtain ⟨G,E,H,e5,op,xp,fp,ip,jp⟩:=p5;have l:=op.ne_blk j Φ;rw[e5,p6,p7];show wpQuiet _ _ _ _ [] _;apply wpQuiet_nil;apply Zu rfl;intro K hK;obtain ⟨⟨z0,z1,z2⟩,g0,g1,g2⟩:=j.three;go_wp2_with fail;have t:Keep (fun q=>q≠g) wi (((wi.setCell ⟨g,0,none⟩ (Yv Yi (Zq Q X).rows)).setCell ⟨g,1,none⟩ (Yv Yi (Zq Q X).cols)).setCell ⟨g,2,none⟩ (.slice G E H)):=
     kS
    have b4:Blk (((wi.setCell ⟨g,0,none⟩ (Yv Yi (Zq Q X).rows)).setCell ⟨g,1,none⟩ (Yv Yi (Zq Q X).cols)).setCell ⟨g,2,none⟩ (.slice G E H)) g #[Yv Yi (Zq Q X).rows,Yv Yi (Zq Q X).cols, .slice G E H] 37:=((j.set 0 _).set 1 _).set 2 _;have f:=hSw.keep t fun q Y=>I;have r4:=(op.keep t fun q Y _ e=>l (e▸Y)).rdI (S:=fun q=>k.heap.size<=q) (fun q Y=>fp q Y) xp;refine hK _ _ f ?_;clear hK K;generalize ad:(((wi.setCell ⟨g,0,none⟩ (Yv Yi (Zq Q X).rows)).setCell ⟨g,1,none⟩ (Yv Yi (Zq Q X).cols)).setCell ⟨g,2,none⟩ (.slice G E H))=wz at *;clear ad t z0 z1 z2 g0 g1 g2;refine Zh ?_;refine Ze ?_;clear W hSw p op e5 p6 p7 j l;have F:=al.trans f;cases v:ZC Q X with
    |false=>
     clear v;go_wp2
     go_ret2
     exact ⟨_,_,rfl,F⟩
    |true=>
     obtain ⟨e1,e2⟩:=ZhW v;obtain ⟨R',C',am,an, -, -,ao, -⟩:=Zl (Zgn Q X);have aq:(Zq Q X).cols=1:=(by rw[e2,HX.out];rfl);obtain rfl:R'=1:=I;obtain rfl:C'=1:=I;have az:=r4.len;obtain ⟨b5,o5,x5,e5, -, -, -,a0,ar⟩:=r4.at (show 0<E by omega);subst e5;rw[Nat.add_zero] at ar;have a1:0<E:=I;obtain ⟨⟨k0,k1,k2⟩, -⟩:=b4.three;have a2:=b4.lt;clear e1 e2 am an ao aq v;go_wp2
     go_ret2
     exact ⟨_,_,rfl,F⟩
  ·have q1:((xn:Int)!=(N:Int))=true:=Ψ;clear l;go_wp2
   go_ret2
   exact ⟨_,_,rfl,D⟩
theorem Zte (es:List (Value×Int)) (e:Value×Int):vcs (es++[e])=vcs es++[e.1,Yv Yi e.2]:=by
 unfold vcs;rw[List.flatMap_append];rfl
theorem Own.at0 {e:TypeId} {sz:Nat} {cap:Nat} {cs:List Value} (h:Own w e sz a n cap cs) (hg:blk a=some g):a=some ⟨g,0,none⟩:=by
 cases a with
 |none=>cases hg
 |some p=>have b:=(h.block p rfl).1;obtain rfl:p.block=g:=JJ hg;exact congrArg some b
def ShQ (v:List Int):Prop:=v.length<=6/\ ∀ x∈v, -20000<=x/\x<=20000
theorem VlC.app {B c9:Nat} {a9:Option Addr} {b:Option Addr} {v:List Int} {r:Int} (hE:VlC w (fun q=>q≠g) Q es) (hr:RdI w (fun q=>q<B) b v.length c v) (hv:v.length<=2097152) (hQ:Q v) (h0:0<=r/\r<=10000) (hg:B<=g) (hB:B<=w.heap.size)
  (hA:Apped w w' 139 2 (some ⟨g,0,none⟩) a9 n c9 (vcs es++[.slice b v.length c,Yv Yi r])): ∃ g9,a9=some ⟨g9,0,none⟩/\B<=g9/\Own w' 139 2 (some ⟨g9,0,none⟩) n c9 (vcs (es++[(.slice b v.length c,r)]))/\VlC w' (fun q=>q≠g9) Q (es++[(.slice b v.length c,r)]):=by
 obtain ⟨g9,j,k⟩: ∃ g9,blk a9=some g9/\(g9=g\/w.heap.size<=g9):=by
  rcases hA.new with e|⟨l,e,m⟩
  ·exact ⟨g,e, .inl rfl⟩
  ·exact ⟨l,e, .inr m⟩
 have f:=hA.own.at0 j;subst f;refine ⟨g9,rfl,I,by rw[Zte];exact hA.own,fun e a=> ?_⟩;have h:VlC w (fun q=>q≠g/\q≠g9) Q (es++[(.slice b v.length c,r)]):=fun e a=>by
  rcases Kg.1 a with a|a
  ·exact (hE.weak (T:=fun q=>q≠g/\q≠g9) fun q d i=>⟨i,I⟩) e a
  ·rw[List.mem_singleton.1 a];exact ⟨b,c,v,rfl,hr.weak fun q d o=>⟨I,I⟩,hv,hQ,h0⟩
 exact ((h.keep hA.keep fun q _ d e=>d.1 (JJ e).symm).weak fun q _ d=>d.2) e a
theorem Zsu (hs:List Int):(JN hs.length).map (fun i=>hs.getD i 0)=hs:=ZjL hs 0
theorem Zlz (h:RdI w S a n c m.cells) (hr:I64 m.rows) (hc:I64 m.cols) (hb:m.cells.length<=1048576) (bound:Int):
  Calls JG 64 #[.agg #[Yv Yi m.rows,Yv Yi m.cols, .slice a n c],Yv Yi bound] w fun e w'=> ∃ a' n' c' rows ok,e= .returned (.tuple #[.slice a' n' c', .bool ok])/\(ok=true->RdII w' (fun _=>True) a' n' c' rows/\n'<=4000/\ ∀ v∈rows,ShQ v)/\Grow w w':=by
 obtain ⟨w1,H,J,bM, -⟩:=al1 w #[Yv Yi m.rows,Yv Yi m.cols, .slice a n c] 37;obtain ⟨⟨m0,m1,m2⟩, -⟩:=bM.three;have f:=bM.lt;rw[H] at m0 m1 m2 f;have V:=hid H;have hm:=h.grow J;clear H h;go_enter func64,ntmps64;go_wp2_with fail;rw[←V.out];clear m0 m1 m2 f;refine (Zvj hm hr hc hb bound).mono ?_;rintro e w2 ⟨ba,bn,bc,hs,ok,rfl,hP,y⟩;have hGa:=J.trans y;cases ok with
 |false=>
  clear hP;go_wp2
  exact IJ
 |true=>
  obtain ⟨ax,L,ay,rB⟩:=hP rfl;have ag:=rB.len;clear hP;go_wp2_with fail;refine (Zrx ba bn bc hs _ rB I L).mono ?_;rintro e w3 ⟨na,nc,rfl,rN,M⟩;have W:=rB.grow M;have z:=Zsu hs;rw[ag] at z;have X:=Zuc (S:=fun _=>True) (T:=fun _=>True) na ba bn nc bc (fun i=>hs.getD i 0) w3 (by rw[←z,List.map_map] at rN;exact rN) (by rw[z];exact W) I (fun i hi=>L _ (by rw[Kr,JR I];exact K7 _));clear z L rB rN W;go_wp2_with fail;refine X.mono ?_;rintro e Y ⟨xa,xn,xc,ok,rows,rfl,rX,az,l,Z⟩;have j:=M.trans Z;have hGb:=hGa.trans j;clear X;cases ok with
  |false=>
   go_wp2
   exact Ie
  |true=>
   have ah:=rX.weak (T:=fun q=>q<Y.heap.size) fun q hq _=>hq;have a0:=rX.len;have N:=hid l;have aa:=(bM.grow y).grow j;have ai:=(hm.grow y).grow j;clear rX l bM hm J y M Z j hGa V;go_wp2;go_loopw [10,12,37] (fun o v i wr=>Grow Y wr/\ ∃ (k p F s:Nat) (A:List (Value×Int)),k<=xn/\p<=k/\i=Yv Yi k/\o= .slice (some ⟨s,0,none⟩) p F/\Y.heap.size<=s/\Own wr 139 2 (some ⟨s,0,none⟩) p F (vcs A)/\VlC wr (fun q=>q≠s) ShQ A) (fun _ _ i _=>xn-(intOf i).toNat);case atStart=>exact ⟨(JH _).alloc _ _,0,0,0,_,[],JI _,JM _,rfl,rfl,JM _,Own.fresh Γ rfl,fun e he=>by cases he⟩
   case round=>
    obtain ⟨hG,k,p,F,s,A,hk,a1,rfl,rfl,t,oB,hE⟩:=hrel;by_cases aj:k<xn
    ·obtain ⟨bv,ov,v,av,cv,rfl,hv,_,a2,ak,O⟩:=(ah.grow hG).at aj;have ab:=N.out v (JX hv);have al:v.length<=6:=I;have am:=hid ab.2;clear hv ab;go_wp2_with fail;refine (ZkG av v.length cv v _ O I).mono ?_;rintro e w5 ⟨pf,rfl,x⟩;have b:=hG.trans x;have ad:=oB.grow x;have ae:=hE.keep x.any fun _ _ _=>trivial;clear ak;cases pf with
     |false=>
      go_wp2;go_roundw;case rel=>exact ⟨b,k+1,p,F,s,A,I,I,Δ,rfl,t,ad,ae⟩
      case measure=>exact FN
     |true=>
      obtain ⟨⟨m0,m1,m2⟩, -⟩:=(aa.grow b).three;have f:=(aa.grow b).lt;go_wp2_with fail;refine (Zsb (ai.grow b) hr hc hb (O.grow x) I).mono ?_;rintro e w6 ⟨r,af,rfl,C⟩;have d:=b.trans C;have D:=ad.grow C;have E:=ae.keep C.any fun _ _ _=>trivial;clear m0 m1 m2 f;cases af with
      |false=>
       go_wp2;go_roundw;case rel=>exact ⟨d,k+1,p,F,s,A,I,I,Δ,rfl,t,D,E⟩
       case measure=>exact FN
      |true=>
       by_cases h1:1<=r
       ·by_cases h2:r<=bound
        ·have an:=(O.grow x).grow C;go_wp2_with (at_builtin;refine ZD rfl (.tmp 60) (.tmp 64) _ rfl ZvZ rfl (D.grow ((JH _).alloc _ _)) rfl (Row.built (S:=fun _=>True) 1 Γ rfl trivial) γ I Γ ?_;intro a3 c3 w7 P);have R:Grow w6 (w6.alloc (.cells #[.slice av v.length cv,Yv Yi r] 139)):=(JH _).alloc _ _;have a4:=d.size;have ao:Grow Y w7:=P.grow (d.trans R) fun g hg=>κ;have G:Apped (w6.alloc (.cells #[.slice av v.length cv,Yv Yi r] 139)) w7 139 2 (some ⟨s,0,none⟩) a3 (p+1) c3 (vcs A++[.slice av v.length cv,Yv Yi r]):=(by simpa using P);obtain ⟨g9,rfl,ap,aq,ar⟩:=VlC.app (B:=Y.heap.size) (E.keep R.any fun _ _ _=>trivial) (an.grow R) I ⟨al,am.out⟩ ⟨I,I⟩ t Ψ G;clear P G;go_wp2;go_roundw;case rel=>exact ⟨ao,k+1,p+1,c3,g9,_,I,I,Δ,rfl,ap,aq,ar⟩
         case measure=>exact FN
        ·go_wp2;go_roundw;case rel=>exact ⟨d,k+1,p,F,s,A,I,I,Δ,rfl,t,D,E⟩
         case measure=>exact FN
       ·go_wp2;go_roundw;case rel=>exact ⟨d,k+1,p,F,s,A,I,I,Δ,rfl,t,D,E⟩
        case measure=>exact FN
    ·obtain rfl:k=xn:=I;go_wp2_with fail;refine (Zly (Q:=ShQ) s p F A _ oB hE I).mono ?_;rintro e w5 ⟨ya,yc,ys,rfl,rY,hQ,aw⟩;go_wp2
     go_ret2
     exact ⟨ya,p,yc,ys,true,rfl,fun _=>⟨rY,I,hQ⟩,(hGb.trans hG).keep aw fun q hq=>by have:=hGb.size;omega⟩
theorem Znk {n:Int} {r:List UInt8} (h:(JK n++r).length<=1048576) (hr:(10:UInt8)∉r):Ans (Za (JK n++r)):=by
 refine Ans.mk' (fun e=> ?_) h fun b=>(Kg.1 b).elim Zer hr;cases a:JK n with
 |nil=>exact Zhl n a
 |cons x t=>
  rw[a] at e;have c:(111:UInt8)∈JK n:=by rw[a,(List.cons.inj e).1];exact List.mem_cons_self ..
  have d:=Zeh c
  revert d;decide
theorem ZoQ {b:ByteArray} (h:RdI w S a n c m.cells) (hr:I64 m.rows) (hc:I64 m.cols) (hb:m.cells.length<=1048576) (hbs:b.size<=1048576) (he:Env w):
  Calls JG 29 #[.agg #[Yv Yi m.rows,Yv Yi m.cols, .slice a n c], .string b] w fun e w'=> ∃ s,e= .returned (.string s)/\Ans s/\Grow w w':=by
 obtain ⟨w1,q,g,D, -⟩:=al1 w #[Yv Yi m.rows,Yv Yi m.cols, .slice a n c] 37;have E:=hid q;have W:=h.grow g;have X:=hid (he.grow g);clear q h he;go_enter func29,ntmps29;go_wp2_with fail;rw[←E.out];refine (ZdV b _ hbs X.out).mono ?_;rintro e w2 ⟨rfl,d⟩;generalize Za2 b.data.toList=j at *;generalize ZcF b.data.toList=F at *;obtain ⟨⟨m0,m1,m2⟩, -⟩:=(D.grow d).three;have t:=(D.grow d).lt;go_wp2_with fail;refine (Zlz (W.grow d) hr hc hb j).mono ?_;rintro e w3 ⟨xa,l,xc,rows,ok,rfl,C,y⟩;have o:=(g.trans d).trans y;have Y:=hid (X.out.tab.grow (d.trans y));clear m0 m1 m2 t D W;cases F with
 |false=>clear C;go_wp2;go_ret;exact ⟨_,rfl,Ze2,o⟩
 |true=>
  cases ok with
  |false=>clear C;go_wp2;go_ret;exact ⟨_,rfl,Ze2,o⟩
  |true=>
   obtain ⟨Z,ab,hQ⟩:=C rfl;have ad:=Z.len;have HQ:=hid hQ;clear C hQ;have G:I64 (l:Int):=ι;go_wp2_with fail;refine (Zbp _ _ G Y.out).mono ?_;rintro e w4 ⟨rfl,H⟩;have J:=Lib.itoa_length_le (l:Int) G.1 G.2;obtain ⟨N,L⟩:=eX (JK (l:Int));rw[←L] at J ⊢;have HN:=hid L;clear L;go_wp2;go_loopw [9,11,34] (fun s v i wr=>Grow w4 wr/\ ∃ (k:Nat) (r:List UInt8),k<=l/\i=Yv Yi k/\s= .string (Za (N++r))/\r.length<=k*140/\(10:UInt8)∉r) (fun _ _ i _=>l-(intOf i).toNat);case atStart=>exact ⟨JH _,0,[],JI _,rfl,by rw[List.append_nil],Θ,Θ⟩
   case round=>
    obtain ⟨hG,k,r,hk,rfl,rfl,ae,z⟩:=hrel;have A:=hid z;clear z;have f:=H.trans hG;by_cases M:k<l
    ·obtain ⟨bv,ov,v,av,cv,rfl,hv,_,af,ag,O⟩:=(Z.grow f).at M;obtain ⟨ah,B⟩:=HQ.out v (JX hv);have P: ∀ x∈v,I64 x:=fun x hx=>(by have:=B x hx;unfold I64;omega);have h1:=Zj6 P;clear hv B;go_wp2_with fail;refine (Zgg av v.length cv v _ O I (Y.out.grow f)).mono ?_;rintro e w5 ⟨rfl,R⟩;have z1:(Za (40::(Zca v++[41]))).size<=200:=(by rw[Zy];simp;omega);have z2:(Za (N++r)).size<=700000:=(by rw[Zy,JY];omega);have hz:=hid (show Za (N++r)++((⟨#[32]⟩:ByteArray)++Za (40::(Zca v++[41])))=Za (N++(r++32::40::(Zca v++[41]))) by
      rw[show (⟨#[32]⟩:ByteArray)=Za [32] from rfl,Zo,Zo,List.append_assoc];rfl)
     generalize p:Zca v++[41]=T at *;have aa:T.length<=133:=(by rw[←p];simp;omega);have V:=hid (show (10:UInt8)∉r++32::40::T from fun h=>by
      rcases Kg.1 h with h|h
      ·exact A.out h
      ·rcases JU.1 h with h|h
       ·revert h;decide
       ·rcases JU.1 h with h|h
        ·revert h;decide
        ·rw[←p] at h;rcases Kg.1 h with h|h
         ·exact Zpo h
         ·revert h;decide)
     clear p;go_wp2;go_roundw;case rel=>exact ⟨hG.trans R,k+1,r++32::40::T,I,Δ,by rw[←hz.out],Ψ,V.out⟩
     case measure=>exact FN
    ·obtain rfl:k=l:=I;go_wp2;go_ret;exact ⟨_,rfl,by rw[HN.out];exact Znk (by rw[←HN.out,JY];omega) A.out,o.trans f⟩

end Go.Proofs.YtgjefeiddfjjnaaGreatDoor
