/- The law FnExactEvaluateSheet returns true for all arguments: the program's EvaluateSheet and the reference's return the same; the argument stays; the results share no memory. -/
import Derived.Test.YtgeoehnbpkediaaGreatZEvR
import Derived.Test.YtgeoehnbpkediaaGreatZResK
import Derived.Test.YtgeoehnbpkediaaGreatZDefO
set_option maxHeartbeats 8000000
set_option maxRecDepth 100000
namespace Go.Proofs.YtgeoehnbpkediaaGreat
open Go.RowKit
theorem ZjY (l:List Dfn):(Zae l).length<=12:=by
 unfold Zae
 split
 ·rename_i h;have:=(ZcA h).2;simp[rsL];omega
 ·simp
theorem Zj0 {l:List Dfn} (hb:ZcF l<=1048576): ∀ d∈l,d.value.cells.length<=1048576:=fun d hd=>by
 obtain ⟨k,hk,rfl⟩:=List.getElem_of_mem hd
 have h1:=(Zih (List.getElem?_eq_getElem hk)).2
 unfold ZcF at hb
 unfold bdD at h1
 omega
theorem ZlV {S:Nat->Prop} {v:Value} {l:List Dfn} {w:World} (h:VDD w S v l) (hb:ZcF l<=1048576):
  Calls Tryz.prog 16 #[v] w fun e w'=> ∃ r,e= .returned r/\VRR w' (fun _=>True) r (Zae l)/\Grow w w':=by
 obtain ⟨a,n,c,rfl,h⟩:=h
 have hl:=h.len
 refine (Zo9 h (by unfold ZcF at hb;omega) (fun d hd=>by have:=Zj0 hb d hd;omega)).mono ?_
 rintro e w' ⟨a',c',rfl,hr,hG, -⟩
 exact ⟨_,rfl,VRR.weak ⟨_,_,_,rfl,hr⟩ fun _ _ _=>trivial,hG⟩
theorem Zh3 {S:Nat->Prop} {v:Value} {l:List Dfn} {w:World} (h:VDD w S v l) (hb:ZcF l<=1048576):
  Calls Tryz.prog 10 #[v] w fun e w'=> ∃ r,e= .returned r/\ORR w' (New w w') r (Zae l)/\Grow w w':=by
 obtain ⟨a,n,c,rfl,h⟩:=h
 have hl:=h.len
 refine (Zpf h (by unfold ZcF at hb;omega) (fun d hd=>by have:=Zj0 hb d hd;omega)).mono ?_
 rintro e w' ⟨a',c',rfl,hr,hG, -⟩
 exact ⟨_,rfl,⟨_,_,_,rfl,hr.weak fun b h1 h2=>⟨h2,h1⟩⟩,hG⟩
theorem Zh0 (l:List Dfn): ∀ r∈Zae l,(rsM r).cells.length<=1048576:=by
 have key: ∀ o:Option Mat,(∀ m,o=some m->m.cells.length<=1048576)->(rsM (ZfH o)).cells.length<=1048576:=fun o h=>by
  cases o with
  |none=>simp[rsM,ZfH,rs0,rsZ]
  |some m=>exact h m rfl
 have hz:(rsM rs0).cells.length<=1048576:=by simp[rsM,rs0,rsZ]
 intro r hr
 unfold Zae at hr
 split at hr
 ·rename_i hs
  obtain ⟨j, -,rfl⟩:=List.mem_map.1 hr
  unfold ZlA evL
  cases he:ev (ndL l) (opL opF l) l.length j with
  |none=>exact hz
  |some x=>
   cases hn:l.length with
   |zero=>rw[hn] at he;cases he
   |succ n=>
    rw[hn] at he
    simp only[ev] at he
    show (rsM x).cells.length<=1048576
    obtain ⟨xs, -,rfl⟩:=Option.map_eq_some_iff.1 he
    unfold opL
    cases hd:l[j]? with
    |none=>exact hz
    |some d=>
     show (rsM (opD opF d xs)).cells.length<=1048576
     unfold opD
     split
     ·exact ZhC hs d (List.mem_of_getElem? hd)
     ·split
      ·exact key _ fun m hm=>ZjT hm
      ·exact hz
 ·cases hr
theorem Zmj (l:List Dfn):Zpn (Zae l):=⟨by have:=ZjY l;omega,fun r hr=>by have:=Zh0 l r hr;omega⟩
theorem Zny (l:List Dfn):ZaJ (Zae l)<=13000000:=by
 have h1:=Zno (Zh0 l)
 have h2:=ZjY l
 have h3:(Zae l).length*(3+1048576)<=12*(3+1048576):=Nat.mul_le_mul_right _ h2
 omega
end Go.Proofs.YtgeoehnbpkediaaGreat
namespace Go.Proofs.YtgeoehnbpkediaaGreat.lawEvaluateSheet
open Go.ChangeShapes Go.WideShapes Go.ChangeAt Go.RowKit
theorem walk (lv:Value) (l:List Dfn) (w:World) (hl0:VDD w (fun _=>True) lv l):
  Calls Tryz.prog 4 #[lv] w fun e w'=>e= .returned (.bool true)/\Grow w w':=by
 have hs0:w.heap.size<=w.heap.size:=Nat.le_refl _
 have hAl:VDD w (fun b=>b<w.heap.size) lv l:=hl0.weak fun _ hb _=>hb
 clear hl0
 by_cases hbl:Zgi 1048576 l<0
 ·skip
  go_enter Tryz.func4,Tryz.ntmps4
  go_wp2_with fail
  refine (Zom hAl (by omega) (by omega)).mono ?_;rintro e wz0 ⟨rfl,hGz0⟩;have hsz0:=hGz0.size;have hT:=hGz0;replace hAl:=hAl.grow hGz0;clear hGz0
  go_wp2_with fail
  all_goals (go_ret;exact ⟨rfl,hT⟩)
 have hzl:=Znd (l:=l) (left:=1048576) (by omega)
 have hBl:ZcF l<=1048576:=by omega
 have hB_0:=Zmj l;have hcR:=Zny l
 go_enter Tryz.func4,Tryz.ntmps4
 go_wp2_with fail
 refine (Zom hAl (by omega) (by omega)).mono ?_;rintro e wz0 ⟨rfl,hGz0⟩;have hsz0:=hGz0.size;have hT:=hGz0;replace hAl:=hAl.grow hGz0;clear hGz0
 go_wp2_with fail
 refine (Zjq hAl hBl).mono ?_
 rintro e w1 ⟨tl,rfl,hCl,hG1⟩
 have hs1:=hG1.size
 replace hAl:=hAl.grow hG1
 replace hT:=hT.trans hG1
 clear hG1
 go_wp2_with fail
 refine (ZlV (hCl.rd (S:=fun _=>True) fun _ _=>trivial) hBl).mono ?_
 rintro e w2 ⟨a0,rfl,hVa0,hG2⟩
 have hs2:=hG2.size
 replace hAl:=hAl.grow hG2
 replace hT:=hT.trans hG2
 clear hG2
 clear hCl
 have hW0:VRR w2 (fun b=>b<w2.heap.size) a0 (Zae l):=hVa0.weak fun _ hb _=>hb
 clear hVa0
 go_wp2_with fail
 refine (Zjq hAl hBl).mono ?_
 rintro e w3 ⟨xl,rfl,hXl,hG3⟩
 have hs3:=hG3.size
 replace hAl:=hAl.grow hG3
 replace hW0:=hW0.grow hG3
 replace hT:=hT.trans hG3
 clear hG3
 go_wp2_with fail
 refine (Zh3 (hXl.rd (S:=fun _=>True) fun _ _=>trivial) hBl).mono ?_
 rintro e w4 ⟨g0,rfl,hVg0,hG4⟩
 have hs4:=hG4.size
 replace hAl:=hAl.grow hG4
 replace hW0:=hW0.grow hG4
 replace hXl:=hXl.grow hG4
 replace hT:=hT.trans hG4
 clear hG4
 go_wp2_with fail
 refine (Zlx (hVg0.rd (S:=fun _=>True) fun _ _=>trivial) hW0 hB_0).mono ?_
 rintro e w5 ⟨rfl,hG5⟩
 have hs5:=hG5.size
 replace hAl:=hAl.grow hG5
 replace hW0:=hW0.grow hG5
 replace hXl:=hXl.grow hG5
 replace hVg0:=hVg0.grow hG5
 replace hT:=hT.trans hG5
 clear hG5
 go_wp2_with fail
 refine (Zjq hAl hBl).mono ?_
 rintro e w6 ⟨tl,rfl,hCl,hG6⟩
 have hs6:=hG6.size
 replace hAl:=hAl.grow hG6
 replace hW0:=hW0.grow hG6
 replace hXl:=hXl.grow hG6
 replace hVg0:=hVg0.grow hG6
 replace hT:=hT.trans hG6
 clear hG6
 go_wp2_with fail
 refine (ZpE (hXl.rd (S:=fun _=>True) fun _ _=>trivial) (hCl.rd (S:=fun _=>True) fun _ _=>trivial) (by omega)).mono ?_
 rintro e w7 ⟨rfl,hG7⟩
 have hs7:=hG7.size
 replace hAl:=hAl.grow hG7
 replace hW0:=hW0.grow hG7
 replace hXl:=hXl.grow hG7
 replace hVg0:=hVg0.grow hG7
 replace hT:=hT.trans hG7
 clear hG7
 clear hCl
 go_wp2_with fail
 refine (ZoF (1) hXl (by omega)).mono ?_
 rintro e w8 ⟨rfl,hXlm,hK8⟩
 have hs8:=hK8.size
 replace hAl:=hAl.keep hK8 (fun b _ hb=>by (try simp only[New] at hb ⊢);omega)
 replace hW0:=hW0.keep hK8 (fun b _ hb=>by (try simp only[New] at hb ⊢);omega)
 replace hVg0:=hVg0.keep hK8 (fun b _ hb=>by (try simp only[New] at hb ⊢);omega)
 replace hT:Grow w w8:=hT.keep hK8 (fun b hb=>by (try simp only[New]);omega)
 clear hK8
 go_wp2_with fail
 refine (Zlx (hVg0.rd (S:=fun _=>True) fun _ _=>trivial) hW0 hB_0).mono ?_
 rintro e w9 ⟨rfl,hG9⟩
 have hs9:=hG9.size
 replace hAl:=hAl.grow hG9
 replace hW0:=hW0.grow hG9
 replace hVg0:=hVg0.grow hG9
 replace hXlm:=hXlm.grow hG9
 replace hT:=hT.trans hG9
 clear hG9
 go_wp2_with fail
 refine (Zor (1) hVg0 (by omega)).mono ?_
 rintro e w10 ⟨rfl,hVg0m,hK10⟩
 have hs10:=hK10.size
 replace hAl:=hAl.keep hK10 (fun b _ hb=>by (try simp only[New] at hb ⊢);omega)
 replace hW0:=hW0.keep hK10 (fun b _ hb=>by (try simp only[New] at hb ⊢);omega)
 replace hXlm:=hXlm.keep hK10 (fun b _ hb=>by (try simp only[New] at hb ⊢);omega)
 replace hT:Grow w w10:=hT.keep hK10 (fun b hb=>by (try simp only[New]);omega)
 clear hK10
 go_wp2_with fail
 refine (Zln (1) (hVg0m.rd (S:=fun _=>True) fun _ _=>trivial) (by omega)).mono ?_
 rintro e w11 ⟨rfl,hG11⟩
 have hs11:=hG11.size
 replace hAl:=hAl.grow hG11
 replace hW0:=hW0.grow hG11
 replace hXlm:=hXlm.grow hG11
 replace hVg0m:=hVg0m.grow hG11
 replace hT:=hT.trans hG11
 clear hG11
 go_wp2_with fail
 refine (Zjq hAl hBl).mono ?_
 rintro e w12 ⟨tl,rfl,hCl,hG12⟩
 have hs12:=hG12.size
 replace hAl:=hAl.grow hG12
 replace hW0:=hW0.grow hG12
 replace hXlm:=hXlm.grow hG12
 replace hVg0m:=hVg0m.grow hG12
 replace hT:=hT.trans hG12
 clear hG12
 go_wp2_with fail
 refine (Zh3 (hCl.rd (S:=fun _=>True) fun _ _=>trivial) hBl).mono ?_
 rintro e w13 ⟨h0,rfl,hVh0,hG13⟩
 have hs13:=hG13.size
 replace hAl:=hAl.grow hG13
 replace hW0:=hW0.grow hG13
 replace hXlm:=hXlm.grow hG13
 replace hVg0m:=hVg0m.grow hG13
 replace hT:=hT.trans hG13
 clear hG13
 clear hCl
 go_wp2_with fail
 refine (Zlx (hVh0.rd (S:=fun _=>True) fun _ _=>trivial) hW0 hB_0).mono ?_
 rintro e w14 ⟨rfl,hG14⟩
 have hs14:=hG14.size
 replace hAl:=hAl.grow hG14
 replace hW0:=hW0.grow hG14
 replace hXlm:=hXlm.grow hG14
 replace hVg0m:=hVg0m.grow hG14
 replace hVh0:=hVh0.grow hG14
 replace hT:=hT.trans hG14
 clear hG14
 go_wp2_with fail
 refine (Zln (1) (hVg0m.rd (S:=fun _=>True) fun _ _=>trivial) (by omega)).mono ?_
 rintro e w15 ⟨rfl,hG15⟩
 have hs15:=hG15.size
 replace hAl:=hAl.grow hG15
 replace hW0:=hW0.grow hG15
 replace hXlm:=hXlm.grow hG15
 replace hVg0m:=hVg0m.grow hG15
 replace hVh0:=hVh0.grow hG15
 replace hT:=hT.trans hG15
 clear hG15
 go_wp2_with fail
 go_ret
 exact ⟨rfl,hT⟩
theorem lifted (os:Os) (started:os.Started) (H:Type) (enc:TypeId×Value->H):
  ReturnsInHanded {} Tryz.checked os 4 .any (Rows.fnExactEvaluateSheetSpec.pre6 enc Tryz.prog Tryz.f4 Rows.fnExactEvaluateSheetRow.domain false) (Rows.fnExactEvaluateSheetSpec.post enc Tryz.prog Tryz.f4 false true false false):=by
 refine ZmO (C:=Tryz.checked) (tb:=4) ZpD started (by kernel_rfl) Tryz.func4
  (ChangeSpec.witness6 (enc:=enc) (C:=Tryz.checked) false ⟨#[], #[.slice none 0 0],[]⟩ 8 (by kernel_rfl) (by kernel_rfl) (by kernel_rfl) (by kernel_rfl))
  Zps ?_ rfl Tryz.underlying4 rfl ?_ ?_
 ·exact of_decide_eq_true (by kernel_rfl)
 ·intro ds hds
  match ds,hds with
  |[d0],_=>rfl
 ·intro W args ds ps hval0 hA0
  have hval: ∀ (j:Nat) t v,Tryz.f4.params[j]? =some t->args[j]? =some v->Value.okWide Tryz.prog W .any 0 t v:=hval0
  have hA:DataW.TrodAll enc Tryz.prog W 0 (fun _=>true) true Tryz.f4.params.toList args.toList ds ps:=hA0
  rw[Tryz.params4] at hA hval
  obtain ⟨v0,vs0,d0,ds0,p0,q0,hargs,rfl,rfl,h0,r0⟩:=trodAll_cons hA
  obtain ⟨rfl,rfl,rfl⟩:=trodAll_nil r0
  obtain rfl:args= #[v0]:=by cases args;simp_all
  obtain ⟨x0a,x0n,x0c,x0,rfl,hx0⟩:=Zo8 (hval 0 42 v0 rfl rfl) h0
  exact walk _ x0 W ⟨_,_,_,rfl,hx0⟩
theorem proved:Rows.FnExactEvaluateSheetSaid:=
 OpenClaim.holds_of_wide 4 Tryz.f4 rfl rfl rfl rfl rfl rfl rfl ⟨rfl,rfl,rfl,rfl,rfl⟩ rfl rfl rfl rfl rfl (by kernel_rfl) Tryz.func4 (by kernel_rfl)
  (of_decide_eq_true (by kernel_rfl)) (by unfold Func.isWrapper;first |(rw[if_pos (by decide+kernel)];kernel_rfl)|(rw[if_neg (by decide+kernel)];exact ⟨rfl,rfl⟩))
  (fun os started H enc _=>lifted os started H enc)
end Go.Proofs.YtgeoehnbpkediaaGreat.lawEvaluateSheet
