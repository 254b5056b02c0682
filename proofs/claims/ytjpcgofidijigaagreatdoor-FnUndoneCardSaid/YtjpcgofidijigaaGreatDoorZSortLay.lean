/- The library's sort (slices.SortFunc at valued vectors) as it stands in this program: the numbers of its functions and types; written by the kit's tool lay-plain. -/
import Derived.Shelf.SlSortCmp.WholeK
import Derived.Ground.SlsfProg
import Derived.Test.YtjpcgofidijigaaGreatDoorZMark
set_option maxHeartbeats 8000000
set_option maxRecDepth 100000
namespace Go.Proofs.YtjpcgofidijigaaGreatDoor
open Go.Shelf
def Zms:Go.Shelf.Ren:=⟨fun |6=>124|15=>163|14=>162|28=>191|29=>192|20=>183|21=>184|22=>185|23=>186|24=>187|25=>188|26=>189|27=>190|46=>204|47=>205|48=>206|49=>207|50=>208|57=>221|n=>n,fun |22=>116|24=>120|25=>163|3=>3|39=>127|0=>0|53=>187|55=>197|4=>4|46=>211|45=>210|50=>75|5=>5|9=>9|66=>233|70=>225|76=>247|77=>248|n=>n,fun |n=>n⟩
theorem Zr2:Go.Proofs.SlLaysF0.n6 Tryz.prog Zms:={
 mixed:=by kernel_rfl
 f6:=⟨Tryz.f124.name,by decide,Tryz.func124.trans (congrArg some (by kernel_rfl))⟩
 f14:=⟨Tryz.f162.name,by decide,Tryz.func162.trans (congrArg some (by kernel_rfl))⟩
 f15:=Tryz.func163.trans (congrArg some (by kernel_rfl))
 f20:=⟨Tryz.f183.name,by decide,Tryz.func183.trans (congrArg some (by kernel_rfl))⟩
 f21:=⟨Tryz.f184.name,by decide,Tryz.func184.trans (congrArg some (by kernel_rfl))⟩
 f22:=⟨Tryz.f185.name,by decide,Tryz.func185.trans (congrArg some (by kernel_rfl))⟩
 f23:=⟨Tryz.f186.name,by decide,Tryz.func186.trans (congrArg some (by kernel_rfl))⟩
 f24:=⟨Tryz.f187.name,by decide,Tryz.func187.trans (congrArg some (by kernel_rfl))⟩
 f25:=⟨Tryz.f188.name,by decide,Tryz.func188.trans (congrArg some (by kernel_rfl))⟩
 f26:=⟨Tryz.f189.name,by decide,Tryz.func189.trans (congrArg some (by kernel_rfl))⟩
 f27:=⟨Tryz.f190.name,by decide,Tryz.func190.trans (congrArg some (by kernel_rfl))⟩
 f28:=Tryz.func191.trans (congrArg some (by kernel_rfl))
 f29:=Tryz.func192.trans (congrArg some (by kernel_rfl))
 f46:=⟨Tryz.f204.name,by decide,Tryz.func204.trans (congrArg some (by kernel_rfl))⟩
 f47:=Tryz.func205.trans (congrArg some (by kernel_rfl))
 f48:=Tryz.func206.trans (congrArg some (by kernel_rfl))
 f49:=⟨Tryz.f207.name,by decide,Tryz.func207.trans (congrArg some (by kernel_rfl))⟩
 f50:=⟨Tryz.f208.name,by decide,Tryz.func208.trans (congrArg some (by kernel_rfl))⟩
 f57:=⟨Tryz.f221.name,by decide,Tryz.func221.trans (congrArg some (by kernel_rfl))⟩
 t0:=Tryz.underlying0
 a0:=Tryz.isAgg0
 z0:=Tryz.sizeOf0
 v0:=Tryz.zeroValue0
 t3:=Tryz.underlying3
 a3:=Tryz.isAgg3
 z3:=Tryz.sizeOf3
 v3:=Tryz.zeroValue3
 t4:=Tryz.underlying4
 a4:=Tryz.isAgg4
 z4:=Tryz.sizeOf4
 v4:=Tryz.zeroValue4
 t5:=Tryz.underlying5
 a5:=Tryz.isAgg5
 z5:=Tryz.sizeOf5
 v5:=Tryz.zeroValue5
 t9:=Tryz.underlying9
 a9:=Tryz.isAgg9
 z9:=Tryz.sizeOf9
 v9:=Tryz.zeroValue9
 t22:=Tryz.underlying116
 a22:=Tryz.isAgg116
 z22:=Tryz.sizeOf116
 v22:=Tryz.zeroValue116
 t25:=Tryz.underlying163
 a25:=Tryz.isAgg163
 z25:=Tryz.sizeOf163
 v25:=Tryz.zeroValue163
 t39:=Tryz.underlying127
 a39:=Tryz.isAgg127
 z39:=Tryz.sizeOf127
 v39:=Tryz.zeroValue127
 t45:=Tryz.underlying210
 a45:=Tryz.isAgg210
 z45:=Tryz.sizeOf210
 v45:=Tryz.zeroValue210
 t46:=Tryz.underlying211
 a46:=Tryz.isAgg211
 z46:=Tryz.sizeOf211
 v46:=Tryz.zeroValue211
 t50:=Tryz.underlying75
 a50:=Tryz.isAgg75
 z50:=Tryz.sizeOf75
 v50:=Tryz.zeroValue75
 t53:=Tryz.underlying187
 a53:=Tryz.isAgg187
 z53:=Tryz.sizeOf187
 v53:=Tryz.zeroValue187
 t55:=Tryz.underlying197
 a55:=Tryz.isAgg197
 z55:=Tryz.sizeOf197
 v55:=Tryz.zeroValue197
 t66:=Tryz.underlying233
 a66:=Tryz.isAgg233
 z66:=Tryz.sizeOf233
 v66:=Tryz.zeroValue233
 t70:=Tryz.underlying225
 a70:=Tryz.isAgg225
 z70:=Tryz.sizeOf225
 v70:=Tryz.zeroValue225
 t76:=Tryz.underlying247
 a76:=Tryz.isAgg247
 z76:=Tryz.sizeOf247
 v76:=Tryz.zeroValue247
 t77:=Tryz.underlying248
 a77:=Tryz.isAgg248
 z77:=Tryz.sizeOf248
 v77:=Tryz.zeroValue248}
end Go.Proofs.YtjpcgofidijigaaGreatDoor

namespace Go.Proofs.YtjpcgofidijigaaGreatDoor
open Go.RowKit
variable {Q:List Int->Prop} {S T:Nat->Prop} {es:List (Value×Int)} {w:World} {α:Type}
theorem Zsj:SlT Tryz.prog 116 120 (.agg #[.slice none 0 0, .int .i64 0]) 2 32:=SlT.mk' Tryz.underlying116 (by kernel_rfl) rfl
def vcE (e:Value×Int):List Value:=[e.1, .int .i64 e.2]
def vcs (es:List (Value×Int)):List Value:=es.flatMap vcE
theorem ZgG {α β:Type} {f:α->List β} (hf: ∀ x,(f x).length=2): ∀ (l:List α) (t:Nat),(l.flatMap f)[t]? =(l[t/2]?).bind fun x=>(f x)[t%2]?
 |[],t=>by simp
 |x::r,t=>by
  rw[List.flatMap_cons];by_cases h:t<2
  ·rw[List.getElem?_append_left (by rw[hf];exact h),show t/2=0 by omega,show t%2=t by omega];rfl
  ·rw[List.getElem?_append_right (by rw[hf];omega),hf,ZgG hf r (t-2),show t/2=(t-2)/2+1 by omega,show t%2=(t-2)%2 by omega];rfl
theorem ZhM (e:Value×Int):(vcE e).length=2:=rfl
theorem ZhY (es:List (Value×Int)):(vcs es).length=es.length*2:=by
 unfold vcs;induction es with
 |nil=>rfl
 |cons e r ih=>rw[List.flatMap_cons,List.length_append,ih,ZhM,List.length_cons];omega
theorem ZrI {k:Nat} {e:Value×Int} (h:es[k]? =some e):(vcs es)[k*2]? =some e.1/\(vcs es)[k*2+1]? =some (.int .i64 e.2):=by
 unfold vcs;rw[ZgG ZhM,ZgG ZhM,show k*2/2=k by omega,show (k*2+1)/2=k by omega,show k*2%2=0 by omega,show (k*2+1)%2=1 by omega,h];exact ⟨rfl,rfl⟩
theorem ZnI [Inhabited α] {enc:α->List Value} (hk: ∀ x,(enc x).length=2) (d:Array α):(Go.Sort.flatK enc 2 d).toList=d.toList.flatMap enc:=by
 refine List.ext_getElem? fun t=> ?_;rw[ZgG hk,Array.getElem?_toList,Array.getElem?_toList];by_cases h:t<d.size*2
 ·rw[Array.getElem?_eq_getElem (by rw[Go.Sort.size_flatK];exact h),Array.getElem?_eq_getElem (show t/2<d.size by omega),Option.bind_some];have:=Go.Sort.get_flatK enc 2 d t h;rw[getElem!_pos _ t (by rw[Go.Sort.size_flatK];exact h),getElem!_pos d (t/2) (by omega)] at this;rw[this,getElem!_pos _ (t%2) (by rw[hk];omega),List.getElem?_eq_getElem]
 ·rw[Array.getElem?_eq_none (by rw[Go.Sort.size_flatK];omega),Array.getElem?_eq_none (by omega)];rfl
section
variable {w:World} {blk m:Nat} {dk:Array Value} {os:Array Obj}
theorem Zja:Keep (fun q=>q≠blk) w (Go.Sort.grow (Go.Sort.putRow id (Go.Sort.ahead w m) blk 0 dk) os):=by
 have hsz:(Go.Sort.putRow id (Go.Sort.ahead w m) blk 0 dk).heap.size=w.heap.size:=Go.Sort.size_putRow _ _ _ _ _;refine ⟨rfl,rfl,rfl, ?_,fun x hx=> ?_,fun k hk hne=> ?_⟩
 ·rw[Go.Sort.size_grow,hsz];omega
 ·rw[Go.Sort.frozen?_grow _ _ _ (by rw[hsz];exact hx),Go.Sort.frozen?_putRow];rfl
 ·rw[Go.Sort.heap_grow_old _ _ (by rw[hsz];exact hk)];unfold Go.Sort.putRow Go.Sort.mapBlock;rw[Array.getElem?_modify,if_neg (fun e=>hne e.symm)];rfl
theorem Zph {cur:Array Value} {e:TypeId} {fr:Nat×Nat} (hb:w.heap[blk]? =some (.cells cur e fr)):
  (Go.Sort.grow (Go.Sort.putRow id (Go.Sort.ahead w m) blk 0 dk) os).heap[blk]? =some (.cells (Go.Sort.putCells id 0 dk cur) e fr):=by
 have hlt:=(Array.getElem?_eq_some_iff.1 hb).1;rw[Go.Sort.heap_grow_old _ _ (by rw[Go.Sort.size_putRow];exact hlt)];unfold Go.Sort.putRow Go.Sort.mapBlock;rw[Array.getElem?_modify,if_pos rfl];show (w.heap[blk]?).map _=_;rw[hb];rfl
theorem Znr {cur:Array Value} (h:dk.size<=cur.size):(Go.Sort.putCells id 0 dk cur).toList.take dk.size=dk.toList:=by
 refine List.ext_getElem? fun k=> ?_;unfold Go.Sort.putCells;by_cases hk:k<dk.size
 ·rw[List.getElem?_take_of_lt hk,Array.getElem?_toList,Array.getElem?_mapIdx,Array.getElem?_toList];rw[Array.getElem?_eq_getElem (by omega),Array.getElem?_eq_getElem hk];simp[hk]
 ·rw[List.getElem?_eq_none (by simp;omega),List.getElem?_eq_none (by simp;omega)]
end
theorem ZjQ: ∀ xs ys zs:List Int,(cmpL xs ys<0->cmpL ys zs<0->cmpL xs zs<0)/\(0<=cmpL xs ys->0<=cmpL ys zs->0<=cmpL xs zs)
 |[],[],[]=>by simp[cmpL]
 |[],[],_::_=>by simp[cmpL]
 |[],_::_,[]=>by simp[cmpL]
 |[],_::_,_::_=>by simp[cmpL]
 |_::_,[],[]=>by simp[cmpL]
 |_::_,[],_::_=>by simp[cmpL]
 |_::_,_::_,[]=>by simp[cmpL]
 |x::xs,y::ys,z::zs=>by
  have ih:=ZjQ xs ys zs;simp only[cmpL];by_cases h1:x=y
  ·subst h1;by_cases h2:x=z
   ·subst h2;simpa using ih
   ·rw[if_pos rfl,if_neg h2,if_neg h2];exact ⟨fun _ h=>h,fun _ h=>h⟩
  ·rw[if_neg h1];by_cases h2:y=z
   ·subst h2;rw[if_pos rfl,if_neg h1];exact ⟨fun h _=>h,fun h _=>h⟩
   ·rw[if_neg h2];by_cases h3:x=z
    ·subst h3;rw[if_pos rfl];exact ⟨fun h4 h5=>by split at h4<;>split at h5<;>omega,fun h4 h5=>by split at h4<;>split at h5<;>omega⟩
    ·rw[if_neg h3];exact ⟨fun h4 h5=>by split at h4<;>split at h5<;>split<;>omega,fun h4 h5=>by split at h4<;>split at h5<;>split<;>omega⟩
theorem Zkz: ∀ xs:List Int,cmpL xs xs=0
 |[]=>rfl
 |x::xs=>by simp only[cmpL,if_true];exact Zkz xs
def Ze2 (p q:Int) (xs ys:List Int):Int:=if p=q then cmpL xs ys else p-q
theorem ZrE {nn:Nat->Int} {lst:Nat->List Int}:Go.Sort.SWO (Go.Proofs.ltOf fun x y:Nat=>Ze2 (nn x) (nn y) (lst x) (lst y)) where
 irrefl x:=by unfold Go.Proofs.ltOf Ze2;simp[Zkz]
 trans x y z h1 h2:=by have:=ZjQ (lst x) (lst y) (lst z);unfold Go.Proofs.ltOf Ze2 at *;simp only[decide_eq_true_eq] at *;split at h1<;>split at h2<;>split<;>first |omega|exact this.1 h1 h2
 ntrans x y z h1 h2:=by have:=ZjQ (lst x) (lst y) (lst z);unfold Go.Proofs.ltOf Ze2 at *;simp only[decide_eq_false_iff_not,Int.not_lt] at *;split at h1<;>split at h2<;>split<;>first |omega|exact this.2 h1 h2
theorem ZsD (a b:Option Addr) (n m c c':Nat) (xs ys:List Int) (p q:Int) (w:World) (h:RdI w S a n c xs) (h':RdI w T b m c' ys) (hp:0<=p/\p<=10000) (hq:0<=q/\q<=10000) (hn:n<=2097152) (hm:m<=2097152):
  Calls Tryz.prog 125 #[.agg #[.slice a n c, .int .i64 p], .agg #[.slice b m c', .int .i64 q]] w fun e w'=>e= .returned (.int .i64 (Ze2 p q xs ys))/\ ∃ k os',w'=Go.Sort.grow (w.drewN k) os':=by
 have hc: ∀ w',Grow w w'->Calls Tryz.prog 126 #[.slice a n c, .slice b m c'] w' fun e w''=>e= .returned (.int .i64 (cmpL xs ys))/\w'=w'':=fun w' hG=>Zn6 a b n m c c' xs ys w' (h.grow hG) (h'.grow hG) hn hm;have u1:wrap64 (p-q)=p-q:=by unfold wrap64;omega
 clear h h';by_cases e:p=q
 ·subst e;have Hr:=Lib.hid (show Ze2 p p xs ys=cmpL xs ys by unfold Ze2;rw[if_pos rfl]);go_enter Tryz.func125,Tryz.ntmps125;go_wp2_with fail;refine (hc _ (((Grow.refl _).alloc _ _).alloc _ _)).mono ?_;rintro e w' ⟨rfl,rfl⟩;go_wp2;go_ret;exact ⟨ZU Hr.out.symm,0,_,by rw[Go.Sort.alloc_eq_grow,Go.Sort.alloc_eq_grow,Go.Sort.grow_grow];rfl⟩
 ·have Hr:=Lib.hid (show Ze2 p q xs ys=p-q by unfold Ze2;rw[if_neg e]);clear hc;go_enter Tryz.func125,Tryz.ntmps125;go_wp2;go_ret;exact ⟨ZU Hr.out.symm,0,_,by rw[Go.Sort.alloc_eq_grow,Go.Sort.alloc_eq_grow,Go.Sort.grow_grow];rfl⟩
theorem Zh0 (l:List α) (z:α):(List.range l.length).map (fun i=>l.getD i z)=l:=by
 refine List.ext_getElem? fun k=> ?_;by_cases hk:k<l.length
 ·rw[List.getElem?_map,List.getElem?_range hk];simp[hk]
 ·rw[List.getElem?_eq_none (by simp;omega),List.getElem?_eq_none (by omega)]
def VlC (w:World) (S:Nat->Prop) (Q:List Int->Prop) (es:List (Value×Int)):Prop:= ∀ e∈es, ∃ b c v,e.1= .slice b v.length c/\RdI w S b v.length c v/\v.length<=2097152/\Q v/\0<=e.2/\e.2<=10000
theorem VlC.keep {w':World} (h:VlC w S Q es) (hk:Keep T w w') (hST: ∀ b,b<w.heap.size->S b->T b):VlC w' S Q es:=fun e he=>by
 obtain ⟨b,c,v,h1,h2,h3⟩:=h e he;exact ⟨b,c,v,h1,h2.keep hk hST,h3⟩
theorem VlC.weak (h:VlC w S Q es) (hST: ∀ b,b<w.heap.size->S b->T b):VlC w T Q es:=fun e he=>by
 obtain ⟨b,c,v,h1,h2,h3⟩:=h e he;exact ⟨b,c,v,h1,h2.weak hST,h3⟩
theorem ZnD (g n cap:Nat) (es:List (Value×Int)) (w:World) (h:Own w 120 2 (some ⟨g,0,none⟩) n cap (vcs es)) (hE:VlC w (fun q=>q≠g) Q es) (hn:n<=1048576):
  Calls Tryz.prog 124 #[.slice (some ⟨g,0,none⟩) n cap, .func (.func 125) #[] #[]] w fun e w'=>
   e= .returned (.tuple #[])/\ ∃ es':List (Value×Int),Own w' 120 2 (some ⟨g,0,none⟩) n cap (vcs es')/\VlC w' (fun q=>q≠g) Q es'/\Keep (fun q=>q≠g) w w':=by
 have hel:es.length=n:=by have:=h.len;rw[ZhY] at this;omega
 obtain ⟨_,cur,hcur,hsz,htake⟩:=h.block _ rfl;have hglt:=(Array.getElem?_eq_some_iff.1 hcur).1;obtain ⟨ez,hez⟩: ∃ ez:Nat->Value×Int,ez=fun i=>es.getD i (.slice none 0 0,0):=⟨_,rfl⟩;have hrd: ∀ x, ∃ b c v,ez x=(.slice b v.length c,(ez x).2)/\RdI w (fun q=>q≠g) b v.length c v/\v.length<=2097152/\0<=(ez x).2/\(ez x).2<=10000:=fun x=>by
  by_cases hx:x<es.length
  ·have e1:ez x=es[x]:=(by rw[hez];simp[List.getD_eq_getElem?_getD,hx]);obtain ⟨b,c,v,h1,h2,h3, -,h4⟩:=hE _ (List.getElem_mem hx);rw[e1];exact ⟨b,c,v,by rw[←h1],h2,h3,h4⟩
  ·have e1:ez x=(.slice none 0 0,0):=(by rw[hez];simp[List.getD_eq_getElem?_getD,List.getElem?_eq_none (show es.length<=x by omega)]);rw[e1];exact ⟨none,0,[],rfl,RdI.nilw _,by simp,by simp,by simp⟩
 obtain ⟨lst,hlst⟩: ∃ lst:Nat->List Int, ∀ x, ∃ b c,ez x=(.slice b (lst x).length c,(ez x).2)/\RdI w (fun q=>q≠g) b (lst x).length c (lst x)/\(lst x).length<=2097152/\0<=(ez x).2/\(ez x).2<=10000:=by have:=fun x=>(hrd x);refine ⟨fun x=>Classical.choose (Classical.choose_spec (Classical.choose_spec (this x))),fun x=>⟨_,_,Classical.choose_spec (Classical.choose_spec (Classical.choose_spec (this x)))⟩⟩
 have eg: ∀ args w,(callFunc 125 args).run Tryz.prog w= .ok (.enter 125 args) w:=Go.Proofs.enters_of Tryz.func125 (by kernel_rfl) rfl;have hcmp:Go.Proofs.CmpLays Tryz.prog 125 #[] (fun x:Nat=>vcE (ez x)) 2 (fun x y:Nat=>Ze2 (ez x).2 (ez y).2 (lst x) (lst y)) g 0 (List.range n).toArray.size w:=fun mm os dk hdk x y=>by
  obtain ⟨b1,c1,e1,r1,l1,p1,p2⟩:=hlst x;obtain ⟨b2,c2,e2,r2,l2,q1,q2⟩:=hlst y;have hK:=Zja (w:=w) (blk:=g) (m:=mm) (dk:=Go.Sort.flatK (fun x:Nat=>vcE (ez x)) 2 dk) (os:=os);have e3:(vcE (ez x)).toArray= #[.slice b1 (lst x).length c1, .int .i64 (ez x).2]:=by unfold vcE;rw[e1]
  have e4:(vcE (ez y)).toArray= #[.slice b2 (lst y).length c2, .int .i64 (ez y).2]:=by unfold vcE;rw[e2]
  rw[e3,e4];exact ZsD _ _ _ _ _ _ (lst x) (lst y) _ _ _ (r1.keep hK fun _ _ hb=>hb) (r2.keep hK fun _ _ hb=>hb) ⟨p1,p2⟩ ⟨q1,q2⟩ l1 l2
 have hcs: ∀ d:Array Nat,(Go.Sort.flatK (fun x:Nat=>vcE (ez x)) 2 d).toList=vcs (d.toList.map ez):=fun d=>by rw[ZnI (fun x=>ZhM _),vcs,List.flatMap_map]
 have hez0:(List.range n).map ez=es:=by rw[hez, ←hel];exact Zh0 es _
 have hH:Go.Sort.HoldsK (fun x:Nat=>vcE (ez x)) 2 w g 0 (List.range n).toArray:=fun j hj=>by
  rw[Go.Sort.size_flatK] at hj;have hj':j<(vcs es).length:=by rw[ZhY,hel];simpa using hj
  have e1:(Go.Sort.flatK (fun x:Nat=>vcE (ez x)) 2 (List.range n).toArray)[j]! =(vcs es)[j]:=by rw[getElem!_pos _ j (by rw[Go.Sort.size_flatK];exact hj), ←Array.getElem_toList];have:=hcs (List.range n).toArray;rw[List.toList_toArray,hez0] at this;simp only[this]
  rw[e1,Nat.zero_add];exact ⟨h.cell (List.getElem?_eq_getElem hj'),h.free j⟩
 have hcon:=Go.Proofs.AnyQ.slices_SortFunc Zr2 2 Tryz.isAgg120 Tryz.sizeOf120 (fun x:Nat=>vcE (ez x)) (fun _=>rfl) (fun x v hv=>by
  obtain ⟨b,c,e, -⟩:=hlst x;unfold vcE at hv;rw[e] at hv;simp at hv;rcases hv with rfl|rfl<;>rfl) (fun x y:Nat=>Ze2 (ez x).2 (ez y).2 (lst x) (lst y)) ZrE 125 #[] g 0 cap (List.range n).toArray w eg hcmp hH hglt (by simp;omega)
 have esz:(List.range n).toArray.size=n:=by simp
 rw[esz] at hcon;refine Calls.mono hcon ?_;rintro e w' ⟨rfl,d',q,os,hp, -,rfl⟩;obtain ⟨p1,_,p3⟩:=hp;have hdn:d'.size=n:=by rw[p1,esz]
 have hperm:d'.toList.Perm (List.range n):=by rw[Array.extract_eq_self_of_le (by omega),Array.extract_eq_self_of_le (by omega)] at p3;simpa using p3
 have hK:=Zja (w:=w) (blk:=g) (m:=q) (dk:=Go.Sort.flatK (fun x:Nat=>vcE (ez x)) 2 d') (os:=os);have hsz2:(Go.Sort.flatK (fun x:Nat=>vcE (ez x)) 2 d').size=n*2:=by rw[Go.Sort.size_flatK,hdn]
 have hle:=h.le;refine ⟨rfl,d'.toList.map ez,⟨by rw[ZhY];simp[hdn],h.le,h.max,(fun h=>by cases h),fun p hp=> ?_⟩,fun e he=> ?_,hK⟩
 ·obtain rfl:=Option.some.inj hp;refine ⟨rfl,_,Zph hcur, ?_, ?_⟩
  ·unfold Go.Sort.putCells;simpa using hsz
  ·have:=Znr (dk:=Go.Sort.flatK (fun x:Nat=>vcE (ez x)) 2 d') (cur:=cur) (by rw[hsz2];omega);rw[hsz2,hcs] at this;exact this
 ·obtain ⟨x,hx,rfl⟩:=List.mem_map.1 he;have hxn:x<n:=by simpa using hperm.mem_iff.1 hx
  have hmem:ez x∈es:=by rw[←hez0];exact List.mem_map.2 ⟨x,by simpa using hxn,rfl⟩
  exact (hE.keep hK fun _ _ hb=>hb) _ hmem
theorem ZjB (g n cap:Nat) (es:List (Value×Int)) (w:World) (h:Own w 120 2 (some ⟨g,0,none⟩) n cap (vcs es)) (hE:VlC w (fun q=>q≠g) Q es) (hn:n<=4000):
  Calls Tryz.prog 85 #[.slice (some ⟨g,0,none⟩) n cap] w fun e w'=> ∃ a' c' rows,e= .returned (.slice a' n c')/\RdII w' (fun _=>True) a' n c' rows/\(∀ v∈rows,Q v)/\Keep (fun q=>q≠g) w w':=by
 go_enter Tryz.func85,Tryz.ntmps85;go_wp2_with fail;refine (ZnD g n cap es w h hE (by omega)).mono ?_;rintro e w1 ⟨rfl,es',o1,hE1,hK1⟩;have hel:es'.length=n:=by have:=o1.len;rw[ZhY] at this;omega
 have hg1:=o1.lt (g:=g) rfl;clear h hE;go_wp2;go_loopw [3,11] (fun o i wr=>Grow w1 wr/\ ∃ (k c1:Nat) (a1:Option Addr),k<=n/\i= .int .i64 k/\o= .slice a1 k c1/\Own wr 32 1 a1 k c1 ((es'.take k).map fun e=>e.1)/\(∀ q,blk a1=some q->w1.heap.size<=q)) (fun _ i _=>n-(intOf i).toNat);case atStart=>exact ⟨(Grow.refl _).alloc _ _,0,0,_,Nat.zero_le _,rfl,rfl,Own.fresh (by unfold maxLen;omega) rfl,fun q hq=>by simp at hq;omega⟩
 case round=>
  obtain ⟨hG,k,c1,a1,hk,rfl,rfl,oB,lB⟩:=hrel;by_cases hlt:k<n
  ·have hek:es'[k]? =some es'[k]:=List.getElem?_eq_getElem (by omega);obtain ⟨b,c,v,e1, -⟩:=hE1 _ (List.getElem_mem (show k<es'.length by omega));obtain ⟨f1,f2⟩:=ZrI hek;have x0:=(o1.grow hG).cell f1;have x1:=(o1.grow hG).cell f2;rw[e1] at x0;have hT:=Lib.hid (show (es'.take (k+1)).map (fun e=>e.1)=(es'.take k).map (fun e=>e.1)++[.slice b v.length c] by rw[ZH hek,List.map_append, ←e1];rfl);have hlw:g<wr.heap.size:=(by have:=hG.size;omega);generalize es'[k].2=y at *;simp only at x0 x1;clear hek f1 f2 e1;have hGy:Grow wr ((wr.alloc (.cells #[.slice b v.length c, .int .i64 y] 120)).alloc (.cells #[.slice b v.length c] 32)):=((Grow.refl _).alloc _ _).alloc _ _;go_wp2_with (at_builtin;refine Zx rfl (.tmp 15) (.tmp 18) _ rfl ZjO rfl (oB.grow hGy) rfl (Row.builtAt (S:=fun _=>True) 1 (by simp) (by unfold maxLen;omega) rfl fun _=>trivial) (by simp[Value.oneCell']) (by omega) (by unfold maxLen;omega) ?_;intro a3 c3 w3 hA3);have hG3:Grow w1 w3:=hA3.grow (hG.trans hGy) lB;have oB3:Own w3 32 1 a3 (k+1) c3 ((es'.take (k+1)).map fun e=>e.1):=(by have:=hA3.own;rw[hT.out];simpa using this);have lB3:=hA3.lo (B:=w1.heap.size) (by have:=hG.size;simp;omega) lB;clear hA3;go_wp2;go_roundw;case rel=>exact ⟨hG3,k+1,c3,a3,by omega,by go_num,rfl,oB3,lB3⟩
   case measure=>simp[intOf];omega
  ·obtain rfl:k=n:=(by omega);rw[Z7 hel] at oB;go_wp2;go_ret;have hE2: ∃ rows:List (List Int),rows.length=k/\ ∀ (i:Nat) (v:List Int),rows[i]? =some v-> ∃ b c,(es'.map fun e=>e.1)[i]? =some (Value.slice b v.length c)/\RdI wr (fun _=>True) b v.length c v/\Q v:=by
    obtain ⟨f,hf⟩: ∃ f:Value×Int->List Int, ∀ e∈es', ∃ b c,e.1= .slice b (f e).length c/\RdI wr (fun _=>True) b (f e).length c (f e)/\Q (f e):=by
     have h0: ∀ e, ∃ v:List Int,e∈es'-> ∃ b c,e.1= .slice b v.length c/\RdI wr (fun _=>True) b v.length c v/\Q v:=fun e=>by
      by_cases he:e∈es'
      ·obtain ⟨b,c,v,h1,h2,h3,h4,h5⟩:=hE1 e he;exact ⟨v,fun _=>⟨b,c,h1,(h2.grow hG).weak fun _ _ _=>trivial,h4⟩⟩
      ·exact ⟨[],fun h=>(he h).elim⟩
     exact ⟨fun e=>Classical.choose (h0 e),fun e he=>Classical.choose_spec (h0 e) he⟩
    refine ⟨es'.map f,by simpa using hel,fun i v hv=> ?_⟩;rw[List.getElem?_map] at hv ⊢;obtain ⟨e,he,rfl⟩:=Option.map_eq_some_iff.1 hv;obtain ⟨b,c,h1,h2⟩:=hf e (List.mem_of_getElem? he);exact ⟨b,c,by rw[he, ←h1];rfl,h2⟩
   obtain ⟨rows,hrl,hrw⟩:=hE2;exact ⟨_,_,rows,rfl,⟨⟨_,oB.row fun _ _=>trivial,fun i v hv=>by obtain ⟨b,c,h1,h2, -⟩:=hrw i v hv;exact ⟨b,c,h1,h2⟩⟩,hrl⟩,(fun v hv=>by obtain ⟨i,hi⟩:=List.mem_iff_getElem?.1 hv;obtain ⟨b,c, -, -,h3⟩:=hrw i v hi;exact h3),hK1.trans (hG.any.mono fun _ _ _=>trivial)⟩

end Go.Proofs.YtjpcgofidijigaaGreatDoor
