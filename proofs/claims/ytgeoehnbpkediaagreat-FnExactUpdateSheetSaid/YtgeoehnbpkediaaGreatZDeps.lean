/- DependentsOf: plain part. -/
import Derived.Test.YtgeoehnbpkediaaGreatZSheet
import Derived.Test.YtgeoehnbpkediaaGreatZStr
set_option maxHeartbeats 8000000
set_option maxRecDepth 100000
namespace Go.Proofs.YtgeoehnbpkediaaGreat
open Go.RowKit
open Lib (hid)
open Go.Value renaming int->Yv
open Go.IntKind renaming i64->Yi
variable {F S:Nat->Prop} {L l:List Dfn} {a1 am:Option Addr} {acc name x:ByteArray} {cm f g i j k n sz:Nat} {cs:Array Value} {d:Dfn} {e:TypeId} {out:List ByteArray} {ss:List Value} {v:Value} {w w0 w2:World} {xss:List (List Int)}
def ZaN (d:Dfn) (x:ByteArray):Bool:=decide (d.a=x)||decide (d.b=x)
def Za7 (out:List ByteArray) (x:ByteArray):Bool:=out.any fun s=>decide (s=x)
theorem ZkO:Za7 out x=true↔x∈out:=by
 unfold Za7;rw[List.any_eq_true];exact ⟨fun ⟨s,hs,h⟩=>by rw[decide_eq_true_eq] at h;rw[←h];exact hs,fun h=>⟨x,h,by simp⟩⟩
def Zbu (x:ByteArray) (out:List ByteArray) (d:Dfn):List ByteArray:=if ZaN d x&& !Za7 out d.name then out++[d.name] else out
def Zap (l:List Dfn) (x:ByteArray) (out:List ByteArray) (k:Nat):List ByteArray:=(l.take k).foldl (Zbu x) out
def Zdt (l:List Dfn) (out:List ByteArray) (i:Nat):List ByteArray:=match out[i]? with
 |some x=>l.foldl (Zbu x) out
 |none=>out
def Zak (l:List Dfn) (name:ByteArray):Nat->List ByteArray
 |0=>[name]
 |i+1=>Zdt l (Zak l name i) i
def ZaM (l:List Dfn) (name:ByteArray):List ByteArray:=if ZF l&&decide (0<=Zk l name) then Zak l name l.length else []
def DepOk (l:List Dfn) (out:List ByteArray):Prop:=out.Nodup/\ ∀ s∈out,s∈l.map (·.name)
theorem DepOk.len (h:DepOk l out):out.length<=l.length:=by
 have:=ZlA h.1 h.2;simpa using this
theorem Znc (h:DepOk l out) (hd:d∈l):DepOk l (Zbu x out d):=by
 unfold Zbu;split
 ·rename_i hc;rw[Bool.and_eq_true,Bool.not_eq_true',Bool.eq_false_iff,ne_eq,ZkO] at hc;refine ⟨List.nodup_append.2 ⟨h.1,by simp, ?_⟩,fun s hs=> ?_⟩
  ·intro a ha b hb e;rw[List.mem_singleton] at hb;subst hb;subst e;exact hc.2 ha
  ·rw[List.mem_append,List.mem_singleton] at hs;rcases hs with hs|rfl
   ·exact h.2 s hs
   ·exact List.mem_map.2 ⟨d,hd,rfl⟩
 ·exact h
theorem Zmc: ∃ r,Zbu x out d=out++r:=by
 unfold Zbu;split
 ·exact ⟨_,rfl⟩
 ·exact ⟨[],by simp⟩
theorem Ziq {l:List Dfn} {x:ByteArray}: ∀ (r:List Dfn) {out:List ByteArray},DepOk l out->(∀ d∈r,d∈l)->DepOk l (r.foldl (Zbu x) out)
 |[],_,h,_=>h
 |d::r,out,h,hr=>Ziq r (Znc h (hr d (by simp))) fun d hd=>hr d (by simp[hd])
theorem Zhy {x:ByteArray}: ∀ (r:List Dfn) (out:List ByteArray), ∃ q,r.foldl (Zbu x) out=out++q
 |[],out=>⟨[],by simp⟩
 |d::r,out=>by obtain ⟨q,hq⟩:=Zmc (x:=x) (out:=out) (d:=d);obtain ⟨q',hq'⟩:=Zhy (x:=x) r (Zbu x out d);exact ⟨q++q',by rw[List.foldl_cons,hq',hq,List.append_assoc]⟩
theorem ZkM (h:DepOk l out) (k:Nat):DepOk l (Zap l x out k):=Ziq _ h fun _ hd=>List.mem_of_mem_take hd
theorem ZnW (l:List Dfn) (x:ByteArray) (out:List ByteArray) (k:Nat): ∃ q,Zap l x out k=out++q:=Zhy _ _
theorem ZbI (h:l[k]? =some d):Zap l x out (k+1)=Zbu x (Zap l x out k) d:=by
 unfold Zap;rw[ZC h,List.foldl_append];rfl
theorem ZjF (hx:out[i]? =some x):Zap l x out l.length=Zdt l out i:=by
 unfold Zap Zdt;rw[hx,List.take_length]
theorem Zf9 {y:ByteArray} (k:Nat) (hx:out[i]? =some y):(Zap l x out k)[i]? =some y:=by
 obtain ⟨q,hq⟩:=ZnW l x out k;rw[hq,List.getElem?_append_left (List.getElem?_eq_some_iff.1 hx).1,hx]
theorem Ze4 {l:List Dfn} {name:ByteArray} (h:0<=Zk l name): ∀ i,DepOk l (Zak l name i)
 |0=>by refine ⟨by simp[Zak],fun s hs=> ?_⟩;simp only[Zak,List.mem_singleton] at hs;subst hs;unfold Zk at h;rw[Za8,List.any_eq_true] at h;obtain ⟨d,hd,he⟩:=h;rw[Zfj,decide_eq_true_eq] at he;exact List.mem_map.2 ⟨d,hd,he⟩
 |i+1=>by
  have ih:=Ze4 h i;simp only[Zak,Zdt];split
  ·exact Ziq l ih fun _ h=>h
  ·exact ih
theorem Zj1 {l:List Dfn} {name:ByteArray} {i:Nat} (hi:(Zak l name i).length<=i): ∀ j,Zak l name (i+j)=Zak l name i
 |0=>rfl
 |j+1=>by rw[show i+(j+1)=(i+j)+1 from rfl];simp only[Zak,Zdt];rw[Zj1 hi j,List.getElem?_eq_none (by omega)]
theorem ZiY (hs:ZF l=true) (hn:0<=Zk l name) (hi:(Zak l name i).length<=i) (hil:i<=l.length):Zak l name i=ZaM l name:=by
 unfold ZaM;rw[hs,decide_eq_true hn];have:=Zj1 hi (l.length-i);rw[show i+(l.length-i)=l.length from by omega] at this;exact this.symm
theorem Zfk (h:(ZF l&&decide (0<=Zk l name))=false):ZaM l name=[]:=by unfold ZaM;rw[h];rfl
theorem Zpv (h:Zbg d=true) (hx:1<=x.size):(!decide (d.op=0)&&ZaN d x)=ZaN d x:=by
 by_cases h0:d.op=0
 ·have:ZaN d x=false:=by unfold Zbg at h;rw[if_pos h0,Zlg,Zlg] at h;simp only[Bool.and_eq_true,decide_eq_true_eq] at h;unfold ZaN;rw[decide_eq_false (fun e=>by rw[←e] at hx;omega),decide_eq_false (fun e=>by rw[←e] at hx;omega)];rfl
  rw[this];simp
 ·rw[decide_eq_false h0];rfl
theorem ZjR (h:ZF l=true) (hd:d∈l):Zbg d=true:=by
 unfold ZF at h;rw[Bool.and_eq_true,List.all_eq_true] at h;obtain ⟨k,hk,he⟩:=List.mem_iff_getElem.1 hd;have:=h.1 k (List.mem_range.2 hk);unfold ZaC at this;rw[List.getElem?_eq_getElem hk,he,Bool.and_eq_true] at this;exact this.1
theorem ZpN (h:Zbg d=true):1<=d.name.size:=by
 unfold Zbg at h;rw[Bool.and_eq_true] at h;exact ((ZcI _).1 h.1).2.1
theorem Zpz (hs:ZF l=true) (h:DepOk l out) (hx:out[i]? =some x):1<=x.size:=by
 obtain ⟨d,hd,rfl⟩:=List.mem_map.1 (h.2 x (List.mem_of_getElem? hx));exact ZpN (ZjR hs hd)
theorem ZhB (h:ZF l=true):l.length<=12:=by
 unfold ZF at h;rw[Bool.and_eq_true,decide_eq_true_eq] at h;exact h.2
def ZfO:Nat->Nat->ByteArray->ByteArray
 |0,_,acc=>acc
 |f+1,k,acc=>if k=0 then acc else ZfO f (k/10) (strOfNums [48+(k:Int)%10]++acc)
def Zbs (k:Nat):ByteArray:=⟨#[109]⟩++ZfO k k ⟨#[]⟩
theorem Zjt (hk:0<k):ZfO (f+1) k acc=ZfO f (k/10) (strOfNums [48+(k:Int)%10]++acc):=by
 show (if k=0 then _ else _)=_;rw[if_neg (by omega)]
theorem Zjy:ZfO f 0 acc=acc:=by cases f<;>simp[ZfO]
theorem ZgM (x:Int):(strOfNums [x]).size=1:=by simp[strOfNums];rfl
theorem Zj2: ∀ (f k:Nat) (acc:ByteArray),(ZfO f k acc).size<=acc.size+k
 |0,k,acc=>by simp[ZfO]
 |f+1,k,acc=>by
  by_cases hk:k=0
  ·subst hk;rw[Zjy];omega
  ·rw[Zjt (by omega)];have:=Zj2 f (k/10) (strOfNums [48+(k:Int)%10]++acc);rw[ByteArray.size_append,ZgM] at this;omega
theorem Zgf (hk:k<=4294967296):(Zbs k).size<=4294967300:=by
 have:=Zj2 k k ⟨#[]⟩;unfold Zbs;rw[ByteArray.size_append];have e1:(⟨#[109]⟩:ByteArray).size=1:=rfl;have e2:(⟨#[]⟩:ByteArray).size=0:=rfl;omega
theorem Zdg (k:Nat) (w:World) (hk:0<k) (hb:k<=4294967296):
  Calls Tryz.prog 47 #[Yv Yi k] w fun e w'=>e= .returned (.string (Zbs k))/\Grow w w':=by
 go_enter Tryz.func47,Tryz.ntmps47;go_wp2;go_loopw [0,3] (fun q s wr=>Grow w wr/\ ∃ (f j:Nat) (acc:ByteArray),q=Yv Yi j/\s= .string acc/\j<=f/\j<=k/\acc.size+j<=k/\ZfO f j acc=ZfO k k ⟨#[]⟩) (fun q _ _=>(intOf q).toNat);case atStart=>exact ⟨Grow.refl _,k,k,⟨#[]⟩,rfl,rfl,Nat.le_refl _,Nat.le_refl _,by show 0+k<=k;omega,rfl⟩
 case round=>
  obtain ⟨hG,f,j,acc,rfl,rfl,hjf,hjk,hsz,he⟩:=hrel;have He:=hid he;clear he;by_cases h0:0<j
  ·have hcv:=run_convert_bytes_arg (P:=Tryz.prog) (wr.alloc (.cells #[.int .u8 (48+(j:Int)%10)] 5)) 22 5 Tryz.underlying22 Tryz.underlying5 wr.heap.size 0 1 1 [48+(j:Int)%10] rfl (fun i hi=>by
    obtain rfl:i=0:=(by omega);exact (Blk.new wr #[.int .u8 (48+(j:Int)%10)] 5).cell 0) 9 Tryz.underlying9
   have hone:=ZgM (48+(j:Int)%10);generalize hq:strOfNums [48+(j:Int)%10]=q at *;have hsum:q.size+acc.size<=9223372036854775807:=(by omega);have Hq:=hid hq;clear hq;go_wp2;go_roundw;case rel=>refine ⟨hG.alloc _ _,f-1,j/10,q++acc,by go_num,rfl,by omega,by omega,by rw[ByteArray.size_append];omega, ?_⟩;rw[←He.out, ←Hq.out];obtain ⟨f',rfl⟩: ∃ f',f=f'+1:=⟨f-1,by omega⟩;rw[Zjt h0];rfl
   case measure=>simp[intOf];omega
  ·have hsum:(⟨#[109]⟩:ByteArray).size+acc.size<=9223372036854775807:=(by show 1+acc.size<=_;omega);go_wp2;go_ret;refine ⟨?_,hG⟩;have hj:j=0:=(by omega);subst hj;have:=He.out;rw[Zjy] at this;unfold Zbs;rw[←this];rfl
def ZrD (l:List ByteArray) (k:Nat):List ByteArray:=(List.range l.length).map fun i=>Zbs (k+i)
@[simp] theorem ZrY (l:List ByteArray) (k:Nat):(ZrD l k).length=l.length:=by simp[ZrD]
def Ziu (d:Dfn) (k:Nat):Dfn:=⟨Zbs k,(k:Int)+1,Zbs (k+2),Zbs (k+3),⟨(k:Int)+1+1+1+1,(k:Int)+1+1+1+1+1,Zb3 d.value.cells.length (k+6)⟩⟩
def Zfo (d:Dfn):Nat:=6+d.value.cells.length
def Zcx:List Dfn->Nat->List Dfn
 |[],_=>[]
 |d::r,k=>Ziu d k::Zcx r (k+Zfo d)
def ZaD (l:List Dfn):Nat:=(l.map Zfo).sum
@[simp] theorem Zpo: ∀ (l:List Dfn) (k:Nat),(Zcx l k).length=l.length
 |[],_=>rfl
 |d::r,k=>by simp[Zcx,Zpo r]
@[simp] theorem ZrQ:ZaD []=0:=rfl
@[simp] theorem Zgu (d:Dfn) (l:List Dfn):ZaD (d::l)=Zfo d+ZaD l:=by simp[ZaD]
theorem Zhf (l r:List Dfn):ZaD (l++r)=ZaD l+ZaD r:=by simp[ZaD]
theorem ZiS (h:l[j]? =some d):ZaD (l.take (j+1))=ZaD (l.take j)+Zfo d:=by rw[ZC h,Zhf];simp
theorem Zjo: ∀ {l:List Dfn} {k j:Nat} {d:Dfn},l[j]? =some d->(Zcx l k)[j]? =some (Ziu d (k+ZaD (l.take j)))
 |[],k,j,d,h=>by simp at h
 |d'::l,k,0,d,h=>by simp at h;subst h;simp[Zcx]
 |d'::l,k,j+1,d,h=>by simp only[List.getElem?_cons_succ] at h;simp only[Zcx,List.getElem?_cons_succ,Zjo (l:=l) (k:=k+Zfo d') h,List.take_succ_cons,Zgu,Nat.add_assoc]
theorem Zgq (l:List Dfn):ZaD l<=6*Zat l:=by
 unfold Zat;induction l with
 |nil=>simp
 |cons d l ih=>simp only[Zgu,Zhc,List.length_cons];unfold Zfo bdD;omega
theorem ZiZ (l:List Dfn) (j:Nat):ZaD (l.take j)<=ZaD l:=by
 conv=>rhs;rw[←List.take_append_drop j l]
 rw[Zhf];omega
theorem Zgw {α:Type} {l:List α} {v:α} (h:l[i]? =some v):l.set i v=l:=by
 obtain ⟨hi,rfl⟩:=List.getElem?_eq_some_iff.1 h;exact List.set_getElem_self hi
theorem Own.has {p:Addr} {cap:Nat} {cs:List Value} (h:Own w e sz (some p) n cap cs) (hj:j<cs.length): ∃ c,w.cell? ⟨p.block,j,none⟩=some c:=⟨_,h.cell (List.getElem?_eq_getElem hj)⟩
theorem Zqb {d':Dfn} {s:Value} (hl:ss.length=l.length) (hd:l[j]? =some d) (hs:ss[j]? =some s):
  (((((((Zao l ss).set (j*7) (.string d'.name)).set (j*7+1) (Yv Yi d'.op)).set (j*7+2) (.string d'.a)).set (j*7+3) (.string d'.b)).set (j*7+4) (Yv Yi d'.value.rows)).set (j*7+5) (Yv Yi d'.value.cols))=Zao (l.set j d') ss:=by
 have hj:j<l.length:=(List.getElem?_eq_some_iff.1 hd).1;have h1:=Zii (d:=d') (s:=s) hl hj;rw[Zgw hs] at h1;rw[←h1];unfold dset;refine (Zgw ?_).symm;rw[List.getElem?_set_ne (by omega),List.getElem?_set_ne (by omega),List.getElem?_set_ne (by omega),List.getElem?_set_ne (by omega),List.getElem?_set_ne (by omega),List.getElem?_set_ne (by omega),ZdF hd hs (by omega)];rfl
theorem ZjV (l:List Dfn) (j:Nat) (d:Dfn):Za5 (l.set j d)=(Za5 l).set j d.value.cells:=by unfold Za5;rw[List.map_set]
theorem ZqU (d:Dfn) (hk:k<=4294967000):DOk (Ziu d k):=by
 have h1:=Zgf (k:=k) (by omega);have h2:=Zgf (k:=k+2) (by omega);have h3:=Zgf (k:=k+3) (by omega);unfold DOk Ziu I64 maxLen;simp only;omega
theorem ZmD: ∀ (l:List Dfn) {k:Nat},k+ZaD l<=4294967000-> ∀ d∈Zcx l k,DOk d
 |[],_,_,d,hd=>by simp[Zcx] at hd
 |d'::l,k,hk,d,hd=>by
  simp only[Zgu] at hk;simp only[Zcx,List.mem_cons] at hd;rcases hd with rfl|hd
  ·exact ZqU _ (by omega)
  ·exact ZmD l (by omega) d hd
theorem ZmA (k:Nat) (h:ODD w F v l) (hb:0<k/\6*Zat l+k<=4294967000):Calls Tryz.prog 20 #[v,Yv Yi k] w fun e w'=>
  e= .returned (Yv Yi ((k+ZaD l:Nat):Int))/\ODD w' F v (Zcx l k)/\Keep (fun g=> ¬ F g) w w':=by
 obtain ⟨a,n,cap,rfl,h⟩:=h;have hl:=h.len;obtain ⟨hk,hb⟩:=hb;have hcl:=Zgq l;obtain ⟨⟨ss,hO,hI⟩,_,hok,hlo⟩:=h;have hss:ss.length=l.length:=by have:=hI.len;simpa using this
 have hn:n<=4294967000:=by unfold Zat at hb;omega
 have Hl:=hid hl;clear hl;have Hss:=hid hss;clear hss;go_enter Tryz.func20,Tryz.ntmps20;go_wp2;go_loopw [1,5] (fun q i wr=> ∃ j:Nat,j<=n/\i=Yv Yi j/\q=Yv Yi ((k+ZaD (l.take j):Nat):Int)/\Own wr 30 7 a n cap (Zao ((Zcx l k).take j++l.drop j) ss)/\Inner wr F (blk a) ss (Za5 ((Zcx l k).take j++l.drop j))/\Keep (fun g=> ¬ F g) w wr) (fun _ i _=>n-(intOf i).toNat);case atStart=>exact ⟨0,Nat.zero_le _,rfl,rfl,by simpa using hO,by simpa using hI,Keep.refl _ _⟩
 case round=>
  clear hO hI;obtain ⟨j,hj,rfl,rfl,hO,hI,hK⟩:=hrel;by_cases hlt:j<n
  ·cases a with
   |none=>have:=hO.nil rfl;have:=hO.le;omega
   |some p=>
    have hp:=(hO.block p rfl).1;obtain ⟨pb,po,ps⟩:=p;simp only[Addr.mk.injEq,true_and] at hp;obtain ⟨rfl,rfl⟩:=hp;obtain ⟨d,hx⟩: ∃ d,l[j]? =some d:=⟨_,List.getElem?_eq_getElem (by rw[Hl.out];exact hlt)⟩;have hcur:((Zcx l k).take j++l.drop j)[j]? =some d:=ZhH (by simp;have:=Hl.out;omega) hx;have hcs:=ZiS hx;have hct:=ZiZ l (j+1);have hset:=ZgI (Zjo (k:=k) hx) hx;obtain ⟨am,cm,hv,hOm,hrm,hFm⟩:=hI.each j _ (Zip hcur);have hlenL:((Zcx l k).take j++l.drop j).length=l.length:=(by simp;have:=Hl.out;omega);have hsix:=Zqb (d':=Ziu d (k+ZaD (l.take j))) (by rw[hlenL,Hss.out]) hcur hv;have hs6:=ZdF (j:=6) hcur hv (by omega);have hC0:(Zao ((Zcx l k).take j++l.drop j) ss).length=l.length*7:=(by rw[Zd5 (by rw[hlenL,Hss.out]),hlenL]);have hdv:=ZjV ((Zcx l k).take j++l.drop j) j (Ziu d (k+ZaD (l.take j)));rw[hset] at hsix hdv;have hcd:Zfo d=6+d.value.cells.length:=rfl;generalize hkk:k+ZaD (l.take j)=kk at *;have hkb:kk+6+d.value.cells.length<=4294967000:=(by omega);have hk0:0<kk:=(by omega);have Hcur:=hid (Zip hcur);have Hv:=hid hv;clear hv hcur hset;generalize hC:Zao ((Zcx l k).take j++l.drop j) ss=C at *;generalize hV:Za5 ((Zcx l k).take j++l.drop j)=V at *;clear hC hV hlenL hcl;have hjl:j*7+7<=C.length:=(by rw[hC0,Hl.out];omega);have Hsix:=hid hsix;have Hdv:=hid hdv;have Hs6:=hid hs6;have Hcs:=hid hcs;have Hx:=hid hx;have Hkk:=hid hkk;clear hsix hdv hs6 hcs hx hkk hC0;go_wp2_with fail;refine (Zdg kk _ hk0 (by omega)).mono ?_;rintro e w1 ⟨rfl,hG1⟩;have hO1:=hO.grow hG1;obtain ⟨c0,e0⟩:=hO1.has (j:=j*7) (by omega);obtain ⟨c1,e1⟩:=hO1.has (j:=j*7+1) (by omega);have f0:=hO1.free (j*7);have f1:=hO1.free (j*7+1);simp only at e0 e1 f0 f1;go_wp2_with fail;refine (Zdg (kk+2) _ (by omega) (by omega)).mono ?_;rintro e w2 ⟨rfl,hG2⟩;have hO2:=((hO1.set (j*7) (.string (Zbs kk))).set (j*7+1) (Yv Yi ((kk:Int)+1))).grow hG2;obtain ⟨c2,e2⟩:=hO2.has (j:=j*7+2) (by simp only[List.length_set];omega);have f2:=hO2.free (j*7+2);simp only at e2 f2;clear e0 e1 f0 f1;go_wp2_with fail;refine (Zdg (kk+3) _ (by omega) (by omega)).mono ?_;rintro e w3 ⟨rfl,hG3⟩;have hO3:=(hO2.set (j*7+2) (.string (Zbs (kk+2)))).grow hG3;obtain ⟨c3,e3⟩:=hO3.has (j:=j*7+3) (by simp only[List.length_set];omega);obtain ⟨c4,e4⟩:=hO3.has (j:=j*7+4) (by simp only[List.length_set];omega);obtain ⟨c5,e5⟩:=hO3.has (j:=j*7+5) (by simp only[List.length_set];omega);have e6:=hO3.cell (j:=j*7+6) (c:= .slice am d.value.cells.length cm) (by rw[List.getElem?_set_ne (by omega),List.getElem?_set_ne (by omega),List.getElem?_set_ne (by omega),Hs6.out];rfl);have f3:=hO3.free (j*7+3);have f4:=hO3.free (j*7+4);have f5:=hO3.free (j*7+5);simp only at e3 e4 e5 e6 f3 f4 f5;clear e2 f2;have hO4:=((hO3.set (j*7+3) (.string (Zbs (kk+3)))).set (j*7+4) (Yv Yi ((kk:Int)+1+1+1+1))).set (j*7+5) (Yv Yi ((kk:Int)+1+1+1+1+1));have hoth: ∀ q,blk am=some q->q≠pb:=fun q hq e=>(hFm q hq).2 (by rw[e];rfl);have hKq: ∀ {W:World} {x:Nat} {u:Value},Keep (fun g=>g≠pb) W (W.setCell ⟨pb,x,none⟩ u):=fun {W x u}=>(Keep.refl _ W).setCell (p:=⟨pb,x,none⟩) (fun _ e=>e rfl) u;have hK4:=(((((((hG1.mono (T:=fun g=>g≠pb) fun _ _ _=>trivial).setCell (p:=⟨pb,j*7,none⟩) (fun _ e=>e rfl) (.string (Zbs kk))).setCell (p:=⟨pb,j*7+1,none⟩) (fun _ e=>e rfl) (Yv Yi ((kk:Int)+1))).trans (hG2.mono fun _ _ _=>trivial)).setCell (p:=⟨pb,j*7+2,none⟩) (fun _ e=>e rfl) (.string (Zbs (kk+2)))).trans (hG3.mono fun _ _ _=>trivial)).setCell (p:=⟨pb,j*7+3,none⟩) (fun _ e=>e rfl) (.string (Zbs (kk+3)))).setCell (p:=⟨pb,j*7+4,none⟩) (fun _ e=>e rfl) (Yv Yi ((kk:Int)+1+1+1+1)) |>.setCell (p:=⟨pb,j*7+5,none⟩) (fun _ e=>e rfl) (Yv Yi ((kk:Int)+1+1+1+1+1));have hOm4:=hOm.keep hK4 (fun q hq _=>hoth q hq);have hI4:=hI.keep hK4 (fun b _ _ hne e=>hne (by rw[e];rfl));go_wp2_with fail;refine (Zgy _ _ _ (kk+6) d.value.cells _ hOm4 (by omega)).mono ?_;rintro e w5 ⟨rfl,o5,hK5⟩;have hI5:=hI4.put Hv.out Hcur.out (by simp) o5 (Zhp (by omega)) hK5;have hO5:=hO4.keep hK5 (fun g hg _ e=>by
     have:=hoth g e;simp at hg;omega)
    have hpF:F pb:=hlo pb rfl;go_wp2;go_roundw;case rel=>
     refine ⟨j+1,by omega,by go_num, ?_, ?_, ?_, ?_⟩
     ·rw[Hcs.out];have:=Hkk.out;rw[hcd];congr 1;omega
     ·rw[←Hsix.out];exact hO5
     ·rw[Hdv.out];exact hI5
     ·refine hK.trans ((hK4.mono fun q _ hq e=>hq (by rw[e];exact hpF)).trans (hK5.mono fun q _ hq e=>hq (hFm q e).1))
    case measure=>simp[intOf];omega
  ·go_wp2;go_ret;have:j=n:=(by omega);subst this;refine ⟨Zz (by rw[ZI Hl.out]),⟨_,_,_,rfl,⟨⟨ss, ?_, ?_⟩,by simp[Hl.out],ZmD l (by omega),hlo⟩⟩,hK⟩
   ·have hd:l.drop j=[]:=(by rw[←Hl.out];simp);rw[hd,List.append_nil,ZI (by simp[Hl.out])] at hO;exact hO
   ·have hd:l.drop j=[]:=(by rw[←Hl.out];simp);rw[hd,List.append_nil,ZI (by simp[Hl.out])] at hI;exact hI
theorem Zm0 (k:Nat) (h:VDD w S v (Zcx l k)) (hb:0<k/\6*Zat l+k<=4294967000):Calls Tryz.prog 29 #[v,Yv Yi k] w fun e w'=>
  e= .returned (Yv Yi ((k+ZaD l:Nat):Int))/\Grow w w':=by
 obtain ⟨a,n,cap,rfl,h⟩:=h;have hl:l.length=n:=by simpa using h.len
 obtain ⟨hk,hb⟩:=hb;have hcl:=Zgq l;have hn:n<=4294967000:=by unfold Zat at hb;omega
 have Hl:=hid hl;clear hl;go_enter Tryz.func29,Tryz.ntmps29;go_wp2;go_loopw [1,5] (fun q i wr=>Grow w wr/\ ∃ j:Nat,j<=n/\i=Yv Yi j/\q=Yv Yi ((k+ZaD (l.take j):Nat):Int)) (fun _ i _=>n-(intOf i).toNat);case atStart=>exact ⟨Grow.refl _,0,Nat.zero_le _,rfl,rfl⟩
 case round=>
  obtain ⟨hG,j,hj,rfl,rfl⟩:=hrel;by_cases hlt:j<n
  ·obtain ⟨d,hx⟩: ∃ d,l[j]? =some d:=⟨_,List.getElem?_eq_getElem (by rw[Hl.out];exact hlt)⟩;obtain ⟨b,off,d',a1,c1,rfl,hx',_,hbw,hd1,r1,ho⟩:=(h.grow hG).at hlt;rw[Zjo hx] at hx';have hcs:=ZiS hx;have hct:=ZiZ l (j+1);have hcd:Zfo d=6+d.value.cells.length:=rfl;obtain rfl:=Option.some.inj hx';generalize hkk:k+ZaD (l.take j)=kk at *;have hkb:kk+6+d.value.cells.length<=4294967000:=(by omega);have hk0:0<kk:=(by omega);have Hcs:=hid hcs;have Hkk:=hid hkk;clear hcs hkk hx hx' hct hcl ho;obtain ⟨g0,g1,g2,g3,g4,g5,g6⟩:=hd1;simp only[Ziu,Zka] at g0 g1 g2 g3 g4 g5 g6 r1;have x0:((Zbs kk).toList !=(Zbs kk).toList)=false:=(by simp);have x2:((Zbs (kk+2)).toList !=(Zbs (kk+2)).toList)=false:=(by simp);have x3:((Zbs (kk+3)).toList !=(Zbs (kk+3)).toList)=false:=(by simp);have x1:((kk:Int)+1!=(kk:Int)+1)=false:=(by simp);have x4:((kk:Int)+1+1+1+1!=(kk:Int)+1+1+1+1)=false:=(by simp);have x5:((kk:Int)+1+1+1+1+1!=(kk:Int)+1+1+1+1+1)=false:=(by simp);go_wp2;refine Zc (S:=Grow wr) [([0,1,2,3,4,5],some 6),([7],none)] Zj (by kernel_rfl) (fun _ _ _ _ _ h=>h) (Grow.refl _).drew ?_;show wpQuiet _ _ _ _ [_,_,_,_,_,_] _;(repeat (first |go_big_quiet_skip|(go_big_quiet_want;first |(apply Za Zo;rfl;rfl;exact (fun w' hG=>hG.cell g0);go_big_quiet_on;simp only[putP])|(go_big_quiet_op;first |go_big_quiet_on|(refine ⟨_,(fun _ _=>rfl), ?_⟩;go_big_quiet_on)))));refine wpQuiet_nil ?_;refine Ze rfl (fun K hK=> ?_);go_wp2_with fail;refine (Zdg kk _ hk0 (by omega)).mono ?_;rintro e w1 ⟨rfl,hGq⟩;have hG1:Grow wr w1:=(Grow.refl wr).drew.trans hGq;clear hGq;go_wp2_with fail;refine hK _ _ (hG1) ?_;clear hK K;show wpQuiet _ _ _ _ [_] _;(try (conv=>arg 6;simp only[putP]));(repeat (first |go_big_quiet_skip|(go_big_quiet_want;first |(apply Za Zo;rfl;rfl;exact (fun w' hG=>hG.cell g0);go_big_quiet_on;simp only[putP])|(go_big_quiet_op;first |go_big_quiet_on|(refine ⟨_,(fun _ _=>rfl), ?_⟩;go_big_quiet_on)))));refine wpQuiet_nil ?_;refine Zh ?_;have p1:=hG1.cell g1;have p2:=hG1.cell g2;go_wp2;refine Zc (S:=Grow w1) [([0,1,2,3,4,5],some 6),([7],none)] Zj (by kernel_rfl) (fun _ _ _ _ _ h=>h) (Grow.refl _).drew ?_;show wpQuiet _ _ _ _ [_,_,_,_,_,_] _;(repeat (first |go_big_quiet_skip|(go_big_quiet_want;first |(apply Za Zo;rfl;rfl;exact (fun w' hG=>hG.cell p2);go_big_quiet_on;simp only[putP])|(go_big_quiet_op;first |go_big_quiet_on|(refine ⟨_,(fun _ _=>rfl), ?_⟩;go_big_quiet_on)))));refine wpQuiet_nil ?_;refine Ze rfl (fun K hK=> ?_);go_wp2_with fail;refine (Zdg (kk+2) _ (by omega) (by omega)).mono ?_;rintro e w2 ⟨rfl,hGq⟩;have hG2:Grow w1 w2:=(Grow.refl w1).drew.trans hGq;clear hGq;go_wp2_with fail;refine hK _ _ (hG2) ?_;clear hK K;show wpQuiet _ _ _ _ [_] _;(try (conv=>arg 6;simp only[putP]));(repeat (first |go_big_quiet_skip|(go_big_quiet_want;first |(apply Za Zo;rfl;rfl;exact (fun w' hG=>hG.cell p2);go_big_quiet_on;simp only[putP])|(go_big_quiet_op;first |go_big_quiet_on|(refine ⟨_,(fun _ _=>rfl), ?_⟩;go_big_quiet_on)))));refine wpQuiet_nil ?_;refine Zh ?_;have p3:=(hG1.trans hG2).cell g3;go_wp2;refine Zc (S:=Grow w2) [([0,1,2,3,4,5],some 6),([7],none)] Zj (by kernel_rfl) (fun _ _ _ _ _ h=>h) (Grow.refl _).drew ?_;show wpQuiet _ _ _ _ [_,_,_,_,_,_] _;(repeat (first |go_big_quiet_skip|(go_big_quiet_want;first |(apply Za Zo;rfl;rfl;exact (fun w' hG=>hG.cell p3);go_big_quiet_on;simp only[putP])|(go_big_quiet_op;first |go_big_quiet_on|(refine ⟨_,(fun _ _=>rfl), ?_⟩;go_big_quiet_on)))));refine wpQuiet_nil ?_;refine Ze rfl (fun K hK=> ?_);go_wp2_with fail;refine (Zdg (kk+3) _ (by omega) (by omega)).mono ?_;rintro e w3 ⟨rfl,hGq⟩;have hG3:Grow w2 w3:=(Grow.refl w2).drew.trans hGq;clear hGq;go_wp2_with fail;refine hK _ _ (hG3) ?_;clear hK K;show wpQuiet _ _ _ _ [_] _;(try (conv=>arg 6;simp only[putP]));(repeat (first |go_big_quiet_skip|(go_big_quiet_want;first |(apply Za Zo;rfl;rfl;exact (fun w' hG=>hG.cell p3);go_big_quiet_on;simp only[putP])|(go_big_quiet_op;first |go_big_quiet_on|(refine ⟨_,(fun _ _=>rfl), ?_⟩;go_big_quiet_on)))));refine wpQuiet_nil ?_;refine Zh ?_;have hGa:=(hG1.trans hG2).trans hG3;have p4:=hGa.cell g4;have p5:=hGa.cell g5;have p6:=hGa.cell g6;go_wp2_with fail;refine (Zi6 _ d.value.cells.length _ (kk+6) _ (r1.grow hGa) (by omega)).mono ?_;rintro e w' ⟨rfl,rfl⟩;go_wp2;go_roundw;case rel=>refine ⟨hG.trans hGa,j+1,by omega,by go_num, ?_⟩;rw[Hcs.out];have:=Hkk.out;rw[hcd];congr 1;omega
   case measure=>simp[intOf];omega
  ·go_wp2;go_ret;have:j=n:=(by omega);subst this;exact ⟨Zz (by rw[ZI Hl.out]),hG⟩
def ZW (l:List Dfn) (d:Dfn):List Dfn:=if 0<=Zk l d.name then l.set (Zk l d.name).toNat d else l++[d]
def Zy (l:List Dfn) (d:Dfn):List Dfn×Bool:=if ZF l&&ZF (ZW l d) then (ZW l d,true) else ([],false)
theorem ZhZ {x:Dfn} (h:x∈ZW l d):x∈l\/x=d:=by
 unfold ZW at h;split at h
 ·exact List.mem_or_eq_of_mem_set h
 ·simpa using h
theorem ZfL {s:ByteArray}:Zk l s<l.length:=(Zcg _ l).2
theorem Zb8 (h:(ZF l&&ZF (ZW l d))=false):Zy l d=([],false):=by unfold Zy;rw[h];rfl
theorem Zc8 (h1:ZF l=true) (h2:ZF (ZW l d)=true):Zy l d=(ZW l d,true):=by unfold Zy;rw[h1,h2];rfl
theorem Row.builtAt (n:Nat) (hg:g=w.heap.size) (hn:n<=maxLen) (hs:cs.size=n*sz) (hS: ∀ b,S b):Row (w.alloc (.cells cs e)) S sz (some ⟨g,0,none⟩) n n cs.toList:=by
 subst hg;exact Row.built n hn hs (hS _)
theorem Inner.repl {g:Option Nat} {vs:List Value} (h:Inner w F g vs xss) {b:Option Addr} {c:Nat} {xs:List Int} (ho:Own w 3 1 b xs.length c (ints xs)) (hr: ∀ x∈xs,I64 x)
  (hb: ∀ q,blk b=some q->F q/\g≠some q) (hnew: ∀ q,blk b=some q-> ∀ v∈vs,v.ownBlock≠some q):Inner w F g (vs.set j (.slice b xs.length c)) (xss.set j xs):=by
 refine ⟨by simp[h.len],fun i zs hi=> ?_, ?_⟩
 ·by_cases hij:j=i
  ·subst hij;obtain ⟨hj,_⟩:=List.getElem?_eq_some_iff.1 hi;simp only[List.length_set] at hj;rw[List.getElem?_set_self hj] at hi;obtain rfl:=Option.some.inj hi;exact ⟨b,c,by rw[List.getElem?_set_self (by rw[h.len];exact hj)],ho,hr,hb⟩
  ·rw[List.getElem?_set_ne hij] at hi;obtain ⟨b',c',h1,h2⟩:=h.each i zs hi;exact ⟨b',c',by rw[List.getElem?_set_ne hij];exact h1,h2⟩
 ·rw[List.pairwise_iff_getElem];intro p q hp hq hpq u hu;simp only[List.length_set] at hp hq;rw[List.getElem_set] at hu ⊢;split at hu
  ·rename_i e;rw[if_neg (by omega)];rw[ZaZ] at hu;exact hnew u hu _ (List.getElem_mem hq)
  ·split
   ·rw[ZaZ];intro e;exact hnew u e _ (List.getElem_mem hp) hu
   ·exact List.pairwise_iff_getElem.1 h.apart p q hp hq hpq u hu
def Fresh (w0:World) (a1 am:Option Addr) (ss:List Value):Prop:= ∀ q,blk am=some q->w0.heap.size<=q/\blk a1≠some q/\ ∀ v∈ss,v.ownBlock≠some q
theorem Fresh.mk' {wr:World} {G:Nat->Prop} (hI:Inner wr G (blk a1) ss xss) (hlo: ∀ g,blk a1=some g->g<wr.heap.size) (h0:w0.heap.size<=wr.heap.size) (hf: ∀ q,blk am=some q->wr.heap.size<=q):Fresh w0 a1 am ss:=
 fun q hq=>⟨by have:=hf q hq;omega,fun e=>by have:=hlo q e;have:=hf q hq;omega,fun v hv e=>by have:=(hI.lt hv e).1;have:=hf q hq;omega⟩
theorem SepD.app {w3:World} {a3:Option Addr} {c3:Nat} (hI:Inner w2 (New w0 w2) (blk a1) ss (Za5 L)) (hl:L.length=k) (hok: ∀ x∈L,DOk x) (hlo: ∀ g,blk a1=some g->New w0 w2 g)
  (om:Own w2 3 1 am d.value.cells.length cm (ints d.value.cells)) (hr: ∀ x∈d.value.cells,I64 x) (hd:DOk d) (hfresh:Fresh w0 a1 am ss) (h0:w0.heap.size<=w2.heap.size)
  (hA:Apped w2 w3 30 7 a1 a3 (k+1) c3 (Zao L ss++Zab d (.slice am d.value.cells.length cm))):SepD w3 (New w0 w3) a3 (k+1) c3 (L++[d]):=by
 have hss:ss.length=L.length:=by have:=hI.len;simpa using this
 have hs3:=hA.keep.size;have hl3:=hA.lo (B:=w0.heap.size) (by omega) (fun g hg=>(hlo g hg).1);refine ⟨⟨ss++[.slice am d.value.cells.length cm], ?_, ?_⟩,by simp[hl],fun x hx=> ?_,fun g hg=>⟨hl3 g hg,hA.own.lt hg⟩⟩
 ·rw[Zh3 hss,Zo6];exact hA.own
 ·have h1:=hI.snoc om hr (fun q hq=>⟨⟨(hfresh q hq).1,om.lt hq⟩,(hfresh q hq).2.1⟩) (fun q hq v hv hvq=>(hfresh q hq).2.2 v hv hvq);rw[Zg1];refine h1.move (G:=New w0 w3) (g':=blk a3) hA.keep fun b hb hF hne=>⟨hne,⟨hF.1,by omega⟩,fun e=> ?_⟩;rcases hA.new with e2|⟨g',e2,hg'⟩
  ·rw[e2] at e;exact hne e
  ·rw[e2] at e;obtain rfl:=Option.some.inj e;omega
 ·rcases List.mem_append.1 hx with hx|hx
  ·exact hok x hx
  ·rw[List.mem_singleton] at hx;subst hx;exact hd
theorem SepD.put {c1:Nat} (hO:Own w2 30 7 (some ⟨g,0,none⟩) n c1 (Zao L ss)) (hI:Inner w2 (New w0 w2) (some g) ss (Za5 L)) (hl:L.length=n) (hok: ∀ x∈L,DOk x) (hlo:New w0 w2 g)
  (om:Own w2 3 1 am d.value.cells.length cm (ints d.value.cells)) (hr: ∀ x∈d.value.cells,I64 x) (hd:DOk d) (hfresh:Fresh w0 (some ⟨g,0,none⟩) am ss) (hk:k<L.length):
  SepD (((((((w2.setCell ⟨g,k*7,none⟩ (.string d.name)).setCell ⟨g,k*7+1,none⟩ (Yv Yi d.op)).setCell ⟨g,k*7+2,none⟩ (.string d.a)).setCell ⟨g,k*7+3,none⟩ (.string d.b)).setCell ⟨g,k*7+4,none⟩ (Yv Yi d.value.rows)).setCell ⟨g,k*7+5,none⟩ (Yv Yi d.value.cols)).setCell ⟨g,k*7+6,none⟩ (.slice am d.value.cells.length cm)) (New w0 w2) (some ⟨g,0,none⟩) n c1 (L.set k d)/\
  Keep (fun q=>q≠g) w2 (((((((w2.setCell ⟨g,k*7,none⟩ (.string d.name)).setCell ⟨g,k*7+1,none⟩ (Yv Yi d.op)).setCell ⟨g,k*7+2,none⟩ (.string d.a)).setCell ⟨g,k*7+3,none⟩ (.string d.b)).setCell ⟨g,k*7+4,none⟩ (Yv Yi d.value.rows)).setCell ⟨g,k*7+5,none⟩ (Yv Yi d.value.cols)).setCell ⟨g,k*7+6,none⟩ (.slice am d.value.cells.length cm)):=by
 have hss:ss.length=L.length:=by have:=hI.len;simpa using this
 have hK:Keep (fun q=>q≠g) w2 (((((((w2.setCell ⟨g,k*7,none⟩ (.string d.name)).setCell ⟨g,k*7+1,none⟩ (Yv Yi d.op)).setCell ⟨g,k*7+2,none⟩ (.string d.a)).setCell ⟨g,k*7+3,none⟩ (.string d.b)).setCell ⟨g,k*7+4,none⟩ (Yv Yi d.value.rows)).setCell ⟨g,k*7+5,none⟩ (Yv Yi d.value.cols)).setCell ⟨g,k*7+6,none⟩ (.slice am d.value.cells.length cm)):=
  (((((((Keep.refl _ w2).setCell (fun _ e=>e rfl) _).setCell (fun _ e=>e rfl) _).setCell (fun _ e=>e rfl) _).setCell (fun _ e=>e rfl) _).setCell (fun _ e=>e rfl) _).setCell (fun _ e=>e rfl) _).setCell (fun _ e=>e rfl) _
 refine ⟨⟨⟨ss.set k (.slice am d.value.cells.length cm),hO.dset hss hk, ?_⟩,by simp[hl],fun x hx=> ?_,fun q hq=>by simp at hq;subst hq;exact hlo⟩,hK⟩
 ·rw[ZjV];have h1:=hI.repl (j:=k) om hr (fun q hq=>⟨⟨(hfresh q hq).1,om.lt hq⟩,by simpa using (hfresh q hq).2.1⟩) (fun q hq v hv hvq=>(hfresh q hq).2.2 v hv hvq);exact h1.keep hK fun b _ _ hne e=>hne (by rw[e])
 ·rcases List.mem_or_eq_of_mem_set hx with hx|rfl
  ·exact hok x hx
  ·exact hd
theorem SepD.nilAt (hg:g=w.heap.size) (hc:cs= #[]) (hF:F g):SepD (w.alloc (.cells cs 30)) F (some ⟨g,0,none⟩) 0 0 []:=by
 subst hc;exact ⟨⟨[],Own.freshAt hg (by unfold maxLen;omega) rfl,Inner.nilw⟩,rfl,(fun _ h=>by cases h),fun q hq=>by simp at hq;subst hq;exact hF⟩
theorem Znp (a:Option Addr) (n cap:Nat) (l:List Dfn) (w:World) (h:RdD w S a n cap l) (hb:Zat l<=1048576):
  Calls Tryz.prog 61 #[.slice a n cap] w fun e w'=> ∃ a' c',e= .returned (.slice a' n c')/\SepD w' (New w w') a' n c' l/\Grow w w':=by
 have Hl:=hid h.len;unfold Zat at hb;have hn:n<=1048576:=by rw[←Hl.out];omega
 go_enter Tryz.func61,Tryz.ntmps61;go_wp2;go_loopw [3,9] (fun v i wr=>Grow w wr/\ ∃ (k c1:Nat) (a1:Option Addr),k<=n/\i=Yv Yi k/\v= .slice a1 k c1/\SepD wr (New w wr) a1 k c1 (l.take k)) (fun _ i _=>n-(intOf i).toNat);case atStart=>
  refine ⟨(Grow.refl w).alloc _ _,0,0,_,Nat.zero_le _,rfl,rfl,⟨⟨[], ?_,Inner.nilw⟩,rfl,(fun _ h=>by cases h),fun g hg=> ?_⟩⟩
  ·exact Own.fresh (by unfold maxLen;omega) rfl
  ·simp at hg;subst hg;exact ⟨Nat.le_refl _,by simp⟩
 case round=>
  obtain ⟨hG,k,c1,a1,hk,rfl,rfl,hS⟩:=hrel;by_cases hlt:k<n
  ·obtain ⟨b,off,d,av,cv,rfl,hx,_,hbw,⟨e0,e1,e2,e3,e4,e5,e6⟩,r1,ho⟩:=(h.grow hG).at hlt;have htot:=(ZfZ hx).2;have hcd:d.value.cells.length<=1048576:=(by unfold bdD at htot;omega);have Hx:=hid hx;clear hx htot;obtain ⟨wb,hwb,hGb,hBb,hsb⟩:=al1 wr #[.string d.name,Yv Yi d.op, .string d.a, .string d.b,Yv Yi d.value.rows,Yv Yi d.value.cols, .slice av d.value.cells.length cv] 30;have Hwb:=hid hwb;clear hwb;obtain ⟨⟨z0,z1,z2,z3,z4,z5,z6⟩, -⟩:=hBb.seven;have hvm:VM wb S (.agg #[Yv Yi d.value.rows,Yv Yi d.value.cols, .slice av d.value.cells.length cv]) d.value:=⟨av,_,cv,rfl,r1.grow hGb,ho.2.2.2.2.1,ho.2.2.2.2.2⟩;go_wp2_with fail;rw[←Hwb.out];refine (Zbq hvm hcd).mono ?_;rintro e w1 ⟨v',rfl,⟨am,nm,cm,rfl,om,xm,fm,hmr,hmc⟩,hG1⟩;have hnm:d.value.cells.length=nm:=(by simpa using om.len);subst hnm;have hB1:=hBb.grow hG1;obtain ⟨⟨y0,y1,y2,y3,y4,y5,y6⟩, -⟩:=hB1.seven;have f4:=hB1.free 4;have f5:=hB1.free 5;have f6:=hB1.free 6;have hK:Keep (fun q=>q≠wr.heap.size) w1 (((w1.setCell ⟨wr.heap.size,4,none⟩ (Yv Yi d.value.rows)).setCell ⟨wr.heap.size,5,none⟩ (Yv Yi d.value.cols)).setCell ⟨wr.heap.size,6,none⟩ (.slice am d.value.cells.length cm)):=
    (((Keep.refl _ w1).setCell (fun _ e=>e rfl) _).setCell (fun _ e=>e rfl) _).setCell (fun _ e=>e rfl) _
   have hGk:Grow wr (((w1.setCell ⟨wr.heap.size,4,none⟩ (Yv Yi d.value.rows)).setCell ⟨wr.heap.size,5,none⟩ (Yv Yi d.value.cols)).setCell ⟨wr.heap.size,6,none⟩ (.slice am d.value.cells.length cm)):=(hGb.trans hG1).keep hK fun q hq=>(by omega);have omk:=om.keep hK (fun g hg _ e=>by have:=(fm g hg).1;omega);have hfr: ∀ q,blk am=some q->wr.heap.size<=q:=fun q hq=>(by have:=(fm q hq).1;omega);have hsw:=hG.size;clear hG1 hGb hK om fm hB1;obtain ⟨⟨ss,hO,hI⟩,hlS,hokS,hloS⟩:=hS;have hOk:=hO.grow hGk;go_wp2_with (at_builtin;refine ZU rfl (.tmp 17) (.tmp 19) _ rfl T_defs rfl (hOk.grow ((Grow.refl _).alloc _ _)) rfl (Row.builtAt (S:=fun _=>True) 1 (by simp) (by unfold maxLen;omega) rfl fun _=>trivial) (by simp[Value.oneCell']) (by omega) (by unfold maxLen;omega) ?_;intro a3 c3 w3 hA3);have hGz:=hGk.alloc #[.string d.name,Yv Yi d.op, .string d.a, .string d.b,Yv Yi d.value.rows,Yv Yi d.value.cols, .slice am d.value.cells.length cm] 30;have hS3:=SepD.app ((hI.grow hGz).weak fun b hb hF hne=>⟨⟨hF.1,hb⟩,hne⟩) hlS hokS (fun g hg=>⟨(hloS g hg).1,Nat.lt_of_lt_of_le (hloS g hg).2 hGz.size⟩) (omk.grow ((Grow.refl _).alloc _ _)) r1.rng ho (Fresh.mk' hI (fun g hg=>(hloS g hg).2) hsw hfr) (by have:=hGz.size;omega) hA3;have hG3:Grow w w3:=hA3.grow (hG.trans (hGk.alloc _ _)) (fun g hg=>(hloS g hg).1);rw[←ZC Hx.out] at hS3;clear hA3;go_wp2;go_roundw;case rel=>exact ⟨hG3,k+1,c3,a3,by omega,by go_num,rfl,hS3⟩
   case measure=>simp[intOf];omega
  ·go_wp2;go_ret;have:k=n:=(by omega);subst this;rw[ZI Hl.out] at hS;exact ⟨_,_,rfl,hS,hG⟩

end Go.Proofs.YtgeoehnbpkediaaGreat
