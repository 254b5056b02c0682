/- The laws' marks on strings; comparing and marking of []string. -/
import Derived.Test.YtgeoehnbpkediaaGreatZStr
import Derived.Test.YtgeoehnbpkediaaGreatZDef
set_option maxHeartbeats 8000000
set_option maxRecDepth 100000
namespace Go.Proofs.YtgeoehnbpkediaaGreat
open Go.RowKit
open Lib (hid)
variable {acc:ByteArray} {d:Dfn} {f j k:Nat} {l:List Dfn} {w:World}
def Zfb:Nat->Nat->ByteArray->ByteArray
 |0,_,acc=>acc
 |f+1,k,acc=>if k=0 then acc else Zfb f (k/10) (strOfNums [48+(k:Int)%10]++acc)
def Zcw (k:Nat):ByteArray:=⟨#[109]⟩++Zfb k k ⟨#[]⟩
theorem ZiV (hk:0<k):Zfb (f+1) k acc=Zfb f (k/10) (strOfNums [48+(k:Int)%10]++acc):=by
 show (if k=0 then _ else _)=_
 rw[if_neg (by omega)]
theorem Zi4:Zfb f 0 acc=acc:=by cases f<;>simp[Zfb]
theorem Zf3 (x:Int):(strOfNums [x]).size=1:=by simp[strOfNums];rfl
theorem Zir: ∀ (f k:Nat) (acc:ByteArray),(Zfb f k acc).size<=acc.size+k
 |0,k,acc=>by simp[Zfb]
 |f+1,k,acc=>by
  by_cases hk:k=0
  ·subst hk;rw[Zi4];omega
  ·rw[ZiV (by omega)]
   have:=Zir f (k/10) (strOfNums [48+(k:Int)%10]++acc)
   rw[ByteArray.size_append,Zf3] at this
   omega
theorem ZfW (hk:k<=4294967296):(Zcw k).size<=4294967300:=by
 have:=Zir k k ⟨#[]⟩
 unfold Zcw
 rw[ByteArray.size_append]
 have e1:(⟨#[109]⟩:ByteArray).size=1:=rfl
 have e2:(⟨#[]⟩:ByteArray).size=0:=rfl
 omega
theorem Zfu (k:Nat) (w:World) (hk:0<k) (hb:k<=4294967296):
  Calls Tryz.prog 47 #[.int .i64 k] w fun e w'=>e= .returned (.string (Zcw k))/\Grow w w':=by
 go_enter Tryz.func47,Tryz.ntmps47
 go_wp2
 go_loopw [0,3] (fun q s wr=>Grow w wr/\ ∃ (f j:Nat) (acc:ByteArray),q= .int .i64 j/\s= .string acc/\j<=f/\j<=k/\acc.size+j<=k/\Zfb f j acc=Zfb k k ⟨#[]⟩) (fun q _ _=>(intOf q).toNat)
 case atStart=>exact ⟨Grow.refl _,k,k,⟨#[]⟩,rfl,rfl,Nat.le_refl _,Nat.le_refl _,by show 0+k<=k;omega,rfl⟩
 case round=>
  obtain ⟨hG,f,j,acc,rfl,rfl,hjf,hjk,hsz,he⟩:=hrel
  have He:=hid he;clear he
  by_cases h0:0<j
  ·have hcv:=run_convert_bytes_arg (P:=Tryz.prog) (wr.alloc (.cells #[.int .u8 (48+(j:Int)%10)] 5)) 22 5 Tryz.underlying22 Tryz.underlying5 wr.heap.size 0 1 1 [48+(j:Int)%10] rfl (fun i hi=>by
    obtain rfl:i=0:=by omega
    exact (Blk.new wr #[.int .u8 (48+(j:Int)%10)] 5).cell 0) 9 Tryz.underlying9
   have hone:=Zf3 (48+(j:Int)%10)
   generalize hq:strOfNums [48+(j:Int)%10]=q at *
   have hsum:q.size+acc.size<=9223372036854775807:=by omega
   have Hq:=hid hq;clear hq
   go_wp2
   go_roundw
   case rel=>
    refine ⟨hG.alloc _ _,f-1,j/10,q++acc,by go_num,rfl,by omega,by omega,by rw[ByteArray.size_append];omega, ?_⟩
    rw[←He.out, ←Hq.out]
    obtain ⟨f',rfl⟩: ∃ f',f=f'+1:=⟨f-1,by omega⟩
    rw[ZiV h0];rfl
   case measure=>simp[intOf];omega
  ·have hsum:(⟨#[109]⟩:ByteArray).size+acc.size<=9223372036854775807:=by show 1+acc.size<=_;omega
   go_wp2
   go_ret
   refine ⟨?_,hG⟩
   have hj:j=0:=by omega
   subst hj
   have:=He.out
   rw[Zi4] at this
   unfold Zcw
   rw[←this]
   rfl
def Zpg (l:List ByteArray) (k:Nat):List ByteArray:=(List.range l.length).map fun i=>Zcw (k+i)
@[simp] theorem ZpR (l:List ByteArray) (k:Nat):(Zpg l k).length=l.length:=by simp[Zpg]
def Zh9 (d:Dfn) (k:Nat):Dfn:=⟨Zcw k,(k:Int)+1,Zcw (k+2),Zcw (k+3),⟨(k:Int)+1+1+1+1,(k:Int)+1+1+1+1+1,Zb4 d.value.cells.length (k+6)⟩⟩
def Zfw (d:Dfn):Nat:=6+d.value.cells.length
def Zcv:List Dfn->Nat->List Dfn
 |[],_=>[]
 |d::r,k=>Zh9 d k::Zcv r (k+Zfw d)
def Zbl (l:List Dfn):Nat:=(l.map Zfw).sum
@[simp] theorem Zn1: ∀ (l:List Dfn) (k:Nat),(Zcv l k).length=l.length
 |[],_=>rfl
 |d::r,k=>by simp[Zcv,Zn1 r]
@[simp] theorem ZpI:Zbl []=0:=rfl
@[simp] theorem Zfr (d:Dfn) (l:List Dfn):Zbl (d::l)=Zfw d+Zbl l:=by simp[Zbl]
theorem ZgJ (l r:List Dfn):Zbl (l++r)=Zbl l+Zbl r:=by simp[Zbl]
theorem Zlv (h:l[j]? =some d):Zbl (l.take (j+1))=Zbl (l.take j)+Zfw d:=by rw[ZX h,ZgJ];simp
theorem ZkS: ∀ {l:List Dfn} {k j:Nat} {d:Dfn},l[j]? =some d->(Zcv l k)[j]? =some (Zh9 d (k+Zbl (l.take j)))
 |[],k,j,d,h=>by simp at h
 |d'::l,k,0,d,h=>by simp at h;subst h;simp[Zcv]
 |d'::l,k,j+1,d,h=>by
  simp only[List.getElem?_cons_succ] at h
  simp only[Zcv,List.getElem?_cons_succ,ZkS (l:=l) (k:=k+Zfw d') h,List.take_succ_cons,Zfr,Nat.add_assoc]
theorem ZnO (l:List Dfn):Zbl l<=6*ZcF l:=by
 unfold ZcF
 induction l with
 |nil=>simp
 |cons d l ih=>
  simp only[Zfr,Zml,List.length_cons]
  unfold Zfw bdD
  omega
theorem Zls (l:List Dfn) (j:Nat):Zbl (l.take j)<=Zbl l:=by
 conv=>rhs;rw[←List.take_append_drop j l]
 rw[ZgJ];omega
theorem ZfQ {α:Type} {l:List α} {i:Nat} {v:α} (h:l[i]? =some v):l.set i v=l:=by
 obtain ⟨hi,rfl⟩:=List.getElem?_eq_some_iff.1 h
 exact List.set_getElem_self hi
theorem Own.has {e:TypeId} {sz:Nat} {p:Addr} {n cap:Nat} {cs:List Value} (h:Own w e sz (some p) n cap cs) (hj:j<cs.length): ∃ c,w.cell? ⟨p.block,j,none⟩=some c:=⟨_,h.cell (List.getElem?_eq_getElem hj)⟩
theorem Znx {ss:List Value} {d':Dfn} {s:Value} (hl:ss.length=l.length) (hd:l[j]? =some d) (hs:ss[j]? =some s):
  (((((((ZaY l ss).set (j*7) (.string d'.name)).set (j*7+1) (.int .i64 d'.op)).set (j*7+2) (.string d'.a)).set (j*7+3) (.string d'.b)).set (j*7+4) (.int .i64 d'.value.rows)).set (j*7+5) (.int .i64 d'.value.cols))=ZaY (l.set j d') ss:=by
 have hj:j<l.length:=(List.getElem?_eq_some_iff.1 hd).1
 have h1:=ZhA (d:=d') (s:=s) hl hj
 rw[ZfQ hs] at h1
 rw[←h1]
 unfold dset
 refine (ZfQ ?_).symm
 rw[List.getElem?_set_ne (by omega),List.getElem?_set_ne (by omega),List.getElem?_set_ne (by omega),List.getElem?_set_ne (by omega),List.getElem?_set_ne (by omega),List.getElem?_set_ne (by omega),Zdh hd hs (by omega)]
 rfl
theorem Zmc (l:List Dfn) (j:Nat) (d:Dfn):Zbj (l.set j d)=(Zbj l).set j d.value.cells:=by unfold Zbj;rw[List.map_set]
theorem ZoY (d:Dfn) (hk:k<=4294967000):DOk (Zh9 d k):=by
 have h1:=ZfW (k:=k) (by omega)
 have h2:=ZfW (k:=k+2) (by omega)
 have h3:=ZfW (k:=k+3) (by omega)
 unfold DOk Zh9 I64 maxLen
 simp only
 omega
theorem Zld: ∀ (l:List Dfn) {k:Nat},k+Zbl l<=4294967000-> ∀ d∈Zcv l k,DOk d
 |[],_,_,d,hd=>by simp[Zcv] at hd
 |d'::l,k,hk,d,hd=>by
  simp only[Zfr] at hk
  simp only[Zcv,List.mem_cons] at hd
  rcases hd with rfl|hd
  ·exact ZoY _ (by omega)
  ·exact Zld l (by omega) d hd
theorem ZoF {F:Nat->Prop} {v:Value} (k:Nat) (h:ODD w F v l) (hb:0<k/\6*ZcF l+k<=4294967000):Calls Tryz.prog 20 #[v, .int .i64 k] w fun e w'=>
  e= .returned (.int .i64 ((k+Zbl l:Nat):Int))/\ODD w' F v (Zcv l k)/\Keep (fun g=> ¬ F g) w w':=by
 obtain ⟨a,n,cap,rfl,h⟩:=h
 have hl:=h.len
 obtain ⟨hk,hb⟩:=hb
 have hcl:=ZnO l
 obtain ⟨⟨ss,hO,hI⟩,_,hok,hlo⟩:=h
 have hss:ss.length=l.length:=by have:=hI.len;simpa using this
 have hn:n<=4294967000:=by unfold ZcF at hb;omega
 have Hl:=hid hl;clear hl
 have Hss:=hid hss;clear hss
 go_enter Tryz.func20,Tryz.ntmps20
 go_wp2
 go_loopw [1,5] (fun q i wr=> ∃ j:Nat,j<=n/\i= .int .i64 j/\q= .int .i64 ((k+Zbl (l.take j):Nat):Int)/\Own wr 30 7 a n cap (ZaY ((Zcv l k).take j++l.drop j) ss)/\Inner wr F (blk a) ss (Zbj ((Zcv l k).take j++l.drop j))/\Keep (fun g=> ¬ F g) w wr) (fun _ i _=>n-(intOf i).toNat)
 case atStart=>exact ⟨0,Nat.zero_le _,rfl,rfl,by simpa using hO,by simpa using hI,Keep.refl _ _⟩
 case round=>
  clear hO hI
  obtain ⟨j,hj,rfl,rfl,hO,hI,hK⟩:=hrel
  by_cases hlt:j<n
  ·cases a with
   |none=>have:=hO.nil rfl;have:=hO.le;omega
   |some p=>
    have hp:=(hO.block p rfl).1
    obtain ⟨pb,po,ps⟩:=p
    simp only[Addr.mk.injEq,true_and] at hp
    obtain ⟨rfl,rfl⟩:=hp
    obtain ⟨d,hx⟩: ∃ d,l[j]? =some d:=⟨_,List.getElem?_eq_getElem (by rw[Hl.out];exact hlt)⟩
    have hcur:((Zcv l k).take j++l.drop j)[j]? =some d:=ZgD (by simp;have:=Hl.out;omega) hx
    have hcs:=Zlv hx
    have hct:=Zls l (j+1)
    have hset:=Zgb (ZkS (k:=k) hx) hx
    obtain ⟨am,cm,hv,hOm,hrm,hFm⟩:=hI.each j _ (Zht hcur)
    have hlenL:((Zcv l k).take j++l.drop j).length=l.length:=by simp;have:=Hl.out;omega
    have hsix:=Znx (d':=Zh9 d (k+Zbl (l.take j))) (by rw[hlenL,Hss.out]) hcur hv
    have hs6:=Zdh (j:=6) hcur hv (by omega)
    have hC0:(ZaY ((Zcv l k).take j++l.drop j) ss).length=l.length*7:=by rw[Zfz (by rw[hlenL,Hss.out]),hlenL]
    have hdv:=Zmc ((Zcv l k).take j++l.drop j) j (Zh9 d (k+Zbl (l.take j)))
    rw[hset] at hsix hdv
    have hcd:Zfw d=6+d.value.cells.length:=rfl
    generalize hkk:k+Zbl (l.take j)=kk at *
    have hkb:kk+6+d.value.cells.length<=4294967000:=by omega
    have hk0:0<kk:=by omega
    have Hcur:=hid (Zht hcur)
    have Hv:=hid hv;clear hv hcur hset
    generalize hC:ZaY ((Zcv l k).take j++l.drop j) ss=C at *
    generalize hV:Zbj ((Zcv l k).take j++l.drop j)=V at *
    clear hC hV hlenL hcl
    have hjl:j*7+7<=C.length:=by rw[hC0,Hl.out];omega
    have Hsix:=hid hsix;have Hdv:=hid hdv;have Hs6:=hid hs6;have Hcs:=hid hcs;have Hx:=hid hx;have Hkk:=hid hkk
    clear hsix hdv hs6 hcs hx hkk hC0
    go_wp2_with fail
    refine (Zfu kk _ hk0 (by omega)).mono ?_
    rintro e w1 ⟨rfl,hG1⟩
    have hO1:=hO.grow hG1
    obtain ⟨c0,e0⟩:=hO1.has (j:=j*7) (by omega)
    obtain ⟨c1,e1⟩:=hO1.has (j:=j*7+1) (by omega)
    have f0:=hO1.free (j*7);have f1:=hO1.free (j*7+1)
    simp only at e0 e1 f0 f1
    go_wp2_with fail
    refine (Zfu (kk+2) _ (by omega) (by omega)).mono ?_
    rintro e w2 ⟨rfl,hG2⟩
    have hO2:=((hO1.set (j*7) (.string (Zcw kk))).set (j*7+1) (.int .i64 ((kk:Int)+1))).grow hG2
    obtain ⟨c2,e2⟩:=hO2.has (j:=j*7+2) (by simp only[List.length_set];omega)
    have f2:=hO2.free (j*7+2)
    simp only at e2 f2
    clear e0 e1 f0 f1
    go_wp2_with fail
    refine (Zfu (kk+3) _ (by omega) (by omega)).mono ?_
    rintro e w3 ⟨rfl,hG3⟩
    have hO3:=(hO2.set (j*7+2) (.string (Zcw (kk+2)))).grow hG3
    obtain ⟨c3,e3⟩:=hO3.has (j:=j*7+3) (by simp only[List.length_set];omega)
    obtain ⟨c4,e4⟩:=hO3.has (j:=j*7+4) (by simp only[List.length_set];omega)
    obtain ⟨c5,e5⟩:=hO3.has (j:=j*7+5) (by simp only[List.length_set];omega)
    have e6:=hO3.cell (j:=j*7+6) (c:= .slice am d.value.cells.length cm) (by rw[List.getElem?_set_ne (by omega),List.getElem?_set_ne (by omega),List.getElem?_set_ne (by omega),Hs6.out];rfl)
    have f3:=hO3.free (j*7+3);have f4:=hO3.free (j*7+4);have f5:=hO3.free (j*7+5)
    simp only at e3 e4 e5 e6 f3 f4 f5
    clear e2 f2
    have hO4:=((hO3.set (j*7+3) (.string (Zcw (kk+3)))).set (j*7+4) (.int .i64 ((kk:Int)+1+1+1+1))).set (j*7+5) (.int .i64 ((kk:Int)+1+1+1+1+1))
    have hoth: ∀ q,blk am=some q->q≠pb:=fun q hq e=>(hFm q hq).2 (by rw[e];rfl)
    have hKq: ∀ {W:World} {x:Nat} {u:Value},Keep (fun g=>g≠pb) W (W.setCell ⟨pb,x,none⟩ u):=fun {W x u}=>(Keep.refl _ W).setCell (p:=⟨pb,x,none⟩) (fun _ e=>e rfl) u
    have hK4:=(((((((hG1.mono (T:=fun g=>g≠pb) fun _ _ _=>trivial).setCell (p:=⟨pb,j*7,none⟩) (fun _ e=>e rfl) (.string (Zcw kk))).setCell (p:=⟨pb,j*7+1,none⟩) (fun _ e=>e rfl) (.int .i64 ((kk:Int)+1))).trans (hG2.mono fun _ _ _=>trivial)).setCell (p:=⟨pb,j*7+2,none⟩) (fun _ e=>e rfl) (.string (Zcw (kk+2)))).trans (hG3.mono fun _ _ _=>trivial)).setCell (p:=⟨pb,j*7+3,none⟩) (fun _ e=>e rfl) (.string (Zcw (kk+3)))).setCell (p:=⟨pb,j*7+4,none⟩) (fun _ e=>e rfl) (.int .i64 ((kk:Int)+1+1+1+1)) |>.setCell (p:=⟨pb,j*7+5,none⟩) (fun _ e=>e rfl) (.int .i64 ((kk:Int)+1+1+1+1+1))
    have hOm4:=hOm.keep hK4 (fun q hq _=>hoth q hq)
    have hI4:=hI.keep hK4 (fun b _ _ hne e=>hne (by rw[e];rfl))
    go_wp2_with fail
    refine (ZhL _ _ _ (kk+6) d.value.cells _ hOm4 (by omega)).mono ?_
    rintro e w5 ⟨rfl,o5,hK5⟩
    have hI5:=hI4.put Hv.out Hcur.out (by simp) o5 (ZiY (by omega)) hK5
    have hO5:=hO4.keep hK5 (fun g hg _ e=>by
     have:=hoth g e
     simp at hg;omega)
    have hpF:F pb:=hlo pb rfl
    go_wp2
    go_roundw
    case rel=>
     refine ⟨j+1,by omega,by go_num, ?_, ?_, ?_, ?_⟩
     ·rw[Hcs.out]
      have:=Hkk.out
      rw[hcd]
      congr 1
      omega
     ·rw[←Hsix.out];exact hO5
     ·rw[Hdv.out];exact hI5
     ·refine hK.trans ((hK4.mono fun q _ hq e=>hq (by rw[e];exact hpF)).trans (hK5.mono fun q _ hq e=>hq (hFm q e).1))
    case measure=>simp[intOf];omega
  ·go_wp2
   go_ret
   have:j=n:=by omega
   subst this
   refine ⟨ZK (by rw[ZZ Hl.out]),⟨_,_,_,rfl,⟨⟨ss, ?_, ?_⟩,by simp[Hl.out],Zld l (by omega),hlo⟩⟩,hK⟩
   ·have hd:l.drop j=[]:=by rw[←Hl.out];simp
    rw[hd,List.append_nil,ZZ (by simp[Hl.out])] at hO
    exact hO
   ·have hd:l.drop j=[]:=by rw[←Hl.out];simp
    rw[hd,List.append_nil,ZZ (by simp[Hl.out])] at hI
    exact hI

end Go.Proofs.YtgeoehnbpkediaaGreat
