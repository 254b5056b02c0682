/- The law FnSheets returns true for all arguments: results that are found anew after a change are those of the whole sheet, and no more are found than can have changed. No condition. -/
import Derived.Test.YtgeoehnbpkediaaGreatZShtP
import Derived.Test.YtgeoehnbpkediaaGreatZDrawSh
set_option maxHeartbeats 8000000
set_option maxRecDepth 100000
namespace Go.Proofs.YtgeoehnbpkediaaGreat.lawFnSheets
open Go.ChangeShapes Go.WideShapes Go.ChangeAt Go.RowKit
theorem ZoH:Tryz.prog.cellsOf 5=1:=by kernel_rfl
theorem Zpc (a:Option Addr) (n cap:Nat) (w:World) (b:Bool) (hb:decide (1048576<n)=b):
  Calls Tryz.prog 6 #[.slice a n cap] w fun e w'=>e= .returned (.bool b)/\w=w':=by
 cases b with
 |true=>have h:=of_decide_eq_true hb;go_enter Tryz.func6,Tryz.ntmps6;go_wp2;go_ret;exact ⟨Zo (by simp;omega),rfl⟩
 |false=>have h:=of_decide_eq_false hb;go_enter Tryz.func6,Tryz.ntmps6;go_wp2;go_ret;exact ⟨Zo (by simp;omega),rfl⟩
theorem facts {l X:List Dfn} {R:List Rs} {c:Nat} {b:Bool} {d:Dfn} (h:Zcg l (ZX l) d=(X,R,c,b)):(b=false->X=[]/\R=[]/\c=0)/\(b=true->Zp X=true/\R=ZX X/\c<=(ZW X d.name).length):=by
 cases hs:(Zy l d).2 with
 |false=>rw[ZfY (.inl hs)] at h;cases h;exact ⟨fun _=>⟨rfl,rfl,rfl⟩,fun h=>by cases h⟩
 |true=>obtain ⟨h1,h2,h3,h4⟩:=Zp2 hs;have h5:=(Zc2 hs).1;rw[←h1] at h2 h3 h5;rw[h] at h2 h3 h4 h5;simp only at h2 h3 h4 h5;subst h4;exact ⟨(fun h=>by cases h),fun _=>⟨h5,h2,h3⟩⟩
theorem walk (a:Option Addr) (n cap:Nat) (bs:List Int) (w:World) (h:RdB w (fun _=>True) a n cap bs):
  Calls Tryz.prog 3 #[.slice a n cap] w fun e w'=>e= .returned (.bool true)/\Grow w w':=by
 by_cases hbig:1048576<n
 ·go_enter Tryz.func3,Tryz.ntmps3;go_wp2_with fail;refine (Zpc a n cap _ true (decide_eq_true hbig)).mono ?_;rintro e _ ⟨rfl,rfl⟩;go_wp2;go_ret;exact ⟨rfl,Grow.refl _⟩
 have hbg:=decide_eq_false hbig;go_enter Tryz.func3,Tryz.ntmps3;go_wp2_with fail;refine (Zpc a n cap _ false hbg).mono ?_;rintro e _ ⟨rfl,rfl⟩;clear hbg;go_wp2_with fail;refine (ZhA a n cap bs _ h (by omega)).mono ?_;rintro e w1 ⟨la,m,lc,l,ra,rc,dv,d,rfl,hR,hRR,hD,hb,hbD,hEb,hG1⟩;clear h hbig;obtain ⟨da,dn,dc,rfl,rD,oD⟩:=hD;obtain ⟨⟨X,R,c,b⟩,hU⟩: ∃ U,Zcg l (ZX l) d=U:=⟨_,rfl⟩;have HF:=Lib.hid (facts hU);obtain ⟨w2,hw2,hG2,bD, -⟩:=al1 w1 #[.string d.name, .int .i64 d.op, .string d.a, .string d.b, .int .i64 d.value.rows, .int .i64 d.value.cols, .slice da dn dc] 30;have hR2:=hR.grow hG2;have hRR2:=hRR.grow hG2;have rD2:=rD.grow hG2;have hG02:=hG1.trans hG2;have HEb:=Lib.hid hEb;have HoD:=Lib.hid oD;obtain ⟨⟨d0,d1,d2,d3,d4,d5,d6⟩, -⟩:=bD.seven;have hltD:=bD.lt;rw[hw2] at d0 d1 d2 d3 d4 d5 d6 hltD;have Hw2:=Lib.hid hw2;have HU:=Lib.hid hU;clear hw2 hR hRR rD hG1 hG2 hEb oD hU;go_wp2_with fail;rw[←Hw2.out];refine (Znf hR2 hRR2 ⟨da,dn,dc,rfl,rD2,HoD.out⟩ (by omega) (by omega) HEb.out).mono ?_;rintro e w3 ⟨v1,v2,z,rfl,⟨xa,xn,xc,rfl,hX⟩,⟨fa,fn,fc,rfl,hF⟩,hG3,hz1,hz2⟩;rw[HU.out] at hX hF ⊢;simp only at hX hF ⊢;have hR3:=hR2.grow hG3;have hRR3:=hRR2.grow hG3;have rD3:=rD2.grow hG3;replace bD:=bD.grow hG3;replace hG02:=hG02.trans hG3;clear d0 d1 d2 d3 d4 d5 d6 hltD hz1 hz2 hG3 hR2 hRR2 rD2;obtain ⟨⟨d0,d1,d2,d3,d4,d5,d6⟩, -⟩:=bD.seven;have hltD:=bD.lt;go_wp2_with fail;refine (Zno hR3 hRR3 ⟨da,dn,dc,rfl,rD3,HoD.out⟩ (by omega) (by omega) HEb.out).mono ?_;rintro e w4 ⟨v1,v2,rfl, -, -,hG4⟩;rw[HU.out];simp only;have hX4:=hX.grow hG4;have hF4:=hF.grow hG4;replace bD:=bD.grow hG4;replace hG02:=hG02.trans hG4;have hxl:=hX4.len;have hfl:=hF4.len;clear d0 d1 d2 d3 d4 d5 d6 hltD hR3 hRR3 rD3 hX hF hG4;cases b with
 |false=>
  obtain ⟨e1,e2,e3⟩:=HF.out.1 rfl;obtain rfl:xn=0:=by rw[←hxl,e1];rfl
  obtain rfl:fn=0:=by rw[←hfl,e2];rfl
  subst e3;clear hxl hfl hX4 hF4;go_wp2;go_ret;exact ⟨rfl,hG02⟩
 |true=>
  obtain ⟨hs,e2,hc⟩:=HF.out.2 rfl;subst e2;have hk:(ZX X).length=xn:=by rw[Zow hs];exact hxl
  obtain rfl:fn=xn:=by rw[←hfl];exact hk
  have hx12:=Zfm hs;have hcl:=Zdp hs;have HS:=Lib.hid hs;have Hcl:=Lib.hid hcl;have rX:=hX4.rdD (S:=fun _=>True) fun _ _=>trivial;have rF:=hF4.rdR (S:=fun _=>True) fun _ _=>trivial;clear hX4 hF4 hs hcl;go_wp2_with fail;refine (Zpz rX (by omega) (fun d hd=>by have:=Hcl.out d hd;omega)).mono ?_;rintro e w5 ⟨ea,ec,rfl,hE,hG5,hEb⟩;have rE:=hE.rdR (S:=fun _=>True) fun _ _=>trivial;rw[hk] at rE ⊢;have rX5:=rX.grow hG5;have rF5:=rF.grow hG5;replace bD:=bD.grow hG5;replace hG02:=hG02.trans hG5;have HEv:=Lib.hid hEb;have q0:((fn:Int)!=(fn:Int))=false:=by simp
  obtain ⟨⟨d0, -⟩, -⟩:=bD.seven;have hltD:=bD.lt;clear hE hEb rX rF hG5;go_wp2_with fail;refine (Zex xa fn xc X d.name _ rX5 (by omega) (fun d hd=>by have:=Hcl.out d hd;omega)).mono ?_;rintro e w6 ⟨v',rfl,⟨ya,yn,yc,rfl,hY, -⟩,hG6⟩;have hyl:yn=(ZW X d.name).length:=by have:=hY.len;simp[strs] at this;omega
  have q1:decide (yn<c)=false:=decide_eq_false (by omega);have rX6:=rX5.grow hG6;have rF6:=rF5.grow hG6;have rE6:=rE.grow hG6;replace hG02:=hG02.trans hG6;clear d0 hltD bD hY hyl hc rX5 rF5 rE hG6;go_wp2_with fail;go_loopw [15] (fun i wr=>Grow w6 wr/\ ∃ j:Nat,j<=fn/\i= .int .i64 j) (fun i _=>fn-(intOf i).toNat);case atStart=>exact ⟨Grow.refl _,0,Nat.zero_le _,rfl⟩
  case round=>
   obtain ⟨hG,i,hi,rfl⟩:=hrel;by_cases hlt:i<fn
   ·obtain ⟨b1,o1,s1,a1',c1',rfl,hs1, -,hb1,⟨x0,x1,x2,x3⟩,rI1,rk1⟩:=(rE6.grow hG).at hlt;obtain ⟨b2,o2,s2,a2',c2',rfl,hs2, -,hb2,⟨y0,y1,y2,y3⟩,rI2,rk2⟩:=(rF6.grow hG).at hlt;obtain rfl:s2=s1:=(by rw[hs1] at hs2;exact (Option.some.inj hs2).symm);have hbd:bdM (rsM s2)<=2097152:=(by have:=HEv.out _ (List.mem_of_getElem? hs1);unfold bdM;omega);have Hbd:=Lib.hid hbd;clear hs1 hs2 hbd;go_wp2_with fail;refine Zd (S:=Grow wr) [([0,1,2,3,4,5,6,7,8,9,10,11,12,13,14,15,16,17,18,19,20,21],some 22),([23,24],none)] Zm (by kernel_rfl) (fun _ _ _ _ _ h=>h) (Grow.refl _).drew ?_;show wpQuiet _ _ _ _ [_,_,_,_,_,_,_,_,_,_,_,_,_,_,_,_,_,_,_,_,_,_] _;(repeat (first |(go_big_quiet_want;(first |refine Za ZaR rfl rfl (fun w' hG=>hG.cell x3) ?_|refine Za ZaR rfl rfl (fun w' hG=>hG.cell y3) ?_|refine Ze Zb rfl rfl (fun w' hG=>⟨hG.cell x0,hG.cell x1,hG.cell x2⟩) ?_|refine Ze Zb rfl rfl (fun w' hG=>⟨hG.cell y0,hG.cell y1,hG.cell y2⟩) ?_);go_big_quiet_on;simp only[putP])|go_big_quiet_step (exact fun _=>rfl)));refine wpQuiet_nil ?_;refine Zh rfl (fun K hK=> ?_);go_wp2_with fail;refine (ZgA (S:=fun _=>True) (T:=fun _=>True) (A:=rsM s2) (B:=rsM s2) ⟨a1',_,c1',rfl,rI1.grow (Grow.refl wr).drew,rk1.1,rk1.2⟩ ⟨a2',_,c2',rfl,rI2.grow (Grow.refl wr).drew,rk2.1,rk2.2⟩ Hbd.out).mono ?_;rintro e w7 ⟨rfl,hG7⟩;rw[Zlc];have hG47:=(Grow.refl wr).drew.trans hG7;go_wp2_with fail;refine hK _ _ (hG47) ?_;clear hK K;show wpQuiet _ _ _ _ [_,_] _;(try (conv=>arg 6;simp only[putP]));(repeat (first |(go_big_quiet_want;(first |refine Za ZaR rfl rfl (fun w' hG=>hG.cell x3) ?_|refine Za ZaR rfl rfl (fun w' hG=>hG.cell y3) ?_|refine Ze Zb rfl rfl (fun w' hG=>⟨hG.cell x0,hG.cell x1,hG.cell x2⟩) ?_|refine Ze Zb rfl rfl (fun w' hG=>⟨hG.cell y0,hG.cell y1,hG.cell y2⟩) ?_);go_big_quiet_on;simp only[putP])|go_big_quiet_step (exact fun _=>rfl)));refine wpQuiet_nil ?_;refine Zi ?_;go_wp2_with fail;go_roundw;case rel=>exact ⟨hG.trans hG47,i+1,by omega,by go_num⟩
    case measure=>simp[intOf];omega
   ·obtain rfl:i=fn:=(by omega);have rX7:=rX6.grow hG;go_wp2_with fail;refine (ZaX xa i xc X _ rX7 (by omega) (fun d hd=>by have:=Hcl.out d hd;omega)).mono ?_;rintro e w8 ⟨rfl,hG8⟩;rw[HS.out];go_wp2_with fail;refine (ZaV xa i xc X _ (rX7.grow hG8) (by omega) (fun d hd=>by have:=Hcl.out d hd;omega)).mono ?_;rintro e w9 ⟨rfl,hG9⟩;rw[HS.out];go_wp2;go_ret;exact ⟨rfl,((hG02.trans hG).trans hG8).trans hG9⟩
theorem lifted (os:Os) (started:os.Started) (H:Type) (enc:TypeId×Value->H):
  ReturnsInHanded {} Tryz.checked os 3 .any (Rows.fnSheetsSpec.pre6 enc Tryz.prog Tryz.f3 Rows.fnSheetsRow.domain false) (Rows.fnSheetsSpec.post enc Tryz.prog Tryz.f3 false true false false):=by
 refine Zm4 (C:=Tryz.checked) (tb:=4) Zqr started (by kernel_rfl) Tryz.func3
  (ChangeSpec.witness6 (enc:=enc) (C:=Tryz.checked) false ⟨#[], #[.slice none 0 0],[]⟩ 8 (by kernel_rfl) (by kernel_rfl) (by kernel_rfl) (by kernel_rfl))
  Zqn ?_ rfl Tryz.underlying4 rfl ?_ ?_
 ·exact of_decide_eq_true (by kernel_rfl)
 ·intro ds hds
  match ds,hds with
  |[d0],_=>rfl
 ·intro W args ds ps hval0 hA0;have hval: ∀ (j:Nat) t v,Tryz.f3.params[j]? =some t->args[j]? =some v->Value.okWide Tryz.prog W .any 0 t v:=hval0;have hA:DataW.TrodAll enc Tryz.prog W 0 (fun _=>true) true Tryz.f3.params.toList args.toList ds ps:=hA0;rw[Tryz.params3] at hA hval;obtain ⟨v0,vs0,d0,ds0,p0,q0,hargs,rfl,rfl,h0,r0⟩:=trodAll_cons hA;obtain ⟨rfl,rfl,rfl⟩:=trodAll_nil r0;obtain rfl:args= #[v0]:=by cases args;simp_all
  obtain ⟨x0a,x0n,x0c,x0,rfl,hx0⟩:=Zqt Tryz.underlying22 Tryz.underlying5 ZoH (hval 0 22 v0 rfl rfl) h0;exact walk _ _ _ x0 W hx0
theorem proved:Rows.FnSheetsSaid:=
 OpenClaim.holds_of_wide 3 Tryz.f3 rfl rfl rfl rfl rfl rfl rfl ⟨rfl,rfl,rfl,rfl,rfl⟩ rfl rfl rfl rfl rfl (by kernel_rfl) Tryz.func3 (by kernel_rfl)
  (of_decide_eq_true (by kernel_rfl)) (by unfold Func.isWrapper;first |(rw[if_pos (by decide+kernel)];kernel_rfl)|(rw[if_neg (by decide+kernel)];exact ⟨rfl,rfl⟩))
  (fun os started H enc _=>lifted os started H enc)
end Go.Proofs.YtgeoehnbpkediaaGreat.lawFnSheets
