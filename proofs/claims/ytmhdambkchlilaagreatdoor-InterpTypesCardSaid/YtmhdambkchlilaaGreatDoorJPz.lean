/- Chapter 13: the answer's Parse at the closed text of the law of chapter 15. Chapter 15: the machine of package interp, with one frame (for the closed unit of the law): top, instr, number, Clone. Chapter 15: the machine of package interp at the closed unit of the law: its state with one frame; enter, record. -/
import Derived.Test.YtmhdambkchlilaaGreatDoorJPy
import Derived.Test.YtmhdambkchlilaaGreatDoorJRt
import Derived.Test.YtmhdambkchlilaaGreatDoorJPl
import Derived.Test.YtmhdambkchlilaaGreatDoorJGa
import Derived.Test.YtmhdambkchlilaaGreatDoorJVlR
namespace Go.Proofs.YtmhdambkchlilaaGreatDoor
open Go.RowKit
set_option linter.unusedVariables false
set_option maxRecDepth 100000
set_option maxHeartbeats 8000000
theorem Box.keptTyI{w w':World}{row:Option Nat}{b:Nat}{cs:List Value}{t t':TypeId}(h:Box w b cs t)(hr:qs w row t')(hne:t≠t')(hg:w.grownBy w' row):Box w' b cs t:=
 h.grown hg (fun e=>by
  obtain⟨cs2,fr2,e2⟩:=hr b e.symm;have e1:w.heap[b]? = some (Obj.cells cs.toArray t (0,0)):=h;rw[e1] at e2;injection e2 with e2
  injection e2 with _ e2 _
  exact hne e2)
theorem zR{w:World}{base g n c:Nat}{e:TypeId}{l:List ByteArray}(h:Own yd 1 base e w (.slice (some ⟨g,0,none⟩) n c) l)(hn:l.length=n){i:Nat}{x:ByteArray}(hi:l[i]? = some x):w.cell? ⟨g,i,none⟩=some (.string x):=by
 obtain⟨hl,rfl⟩:=List.getElem?_eq_some_iff.1 hi;have:=Own.cellOf yA h hn hl (j:=0) (u:= .string l[i]) rfl
 simpa using this
theorem kO{α:Type}{cells:α→List Value}{size base:Nat}{e:TypeId}{w:World}{g n c:Nat}{l:List α}(h:Own cells size base e w (.slice (some ⟨g,0,none⟩) n c) l)(hn:l.length=n):n≤c:=by
 rcases h.2 with⟨h1,_⟩|⟨g',cap,cur,hv,_,_,hnc,_⟩
 ·cases h1
 ·injection hv with _ _ h3
  omega
def txtV:ByteArray:=⟨#[99,108,97,115,115,32,77,97,105,110,10,109,101,116,104,111,100,32,109,97,105,110,32,115,116,97,116,105,99,32,45,10,102,117,110,99,32,77,97,105,110,32,109,97,105,110,10,118,97,114,32,120,32,105,110,116,10,45,49,32,105,110,112,117,116,32,48,10,45,49,32,114,101,116,117,114,110,32,45,49,10]⟩
theorem lnV:lnR txtV=([⟨#[99,108,97,115,115,32,77,97,105,110]⟩,⟨#[109,101,116,104,111,100,32,109,97,105,110,32,115,116,97,116,105,99,32,45]⟩,⟨#[102,117,110,99,32,77,97,105,110,32,109,97,105,110]⟩,⟨#[118,97,114,32,120,32,105,110,116]⟩,⟨#[45,49,32,105,110,112,117,116,32,48]⟩,⟨#[45,49,32,114,101,116,117,114,110,32,45,49]⟩],true):=by kernel_rfl
theorem wdV0:wdR ⟨#[99,108,97,115,115,32,77,97,105,110]⟩=([⟨#[99,108,97,115,115]⟩,⟨#[77,97,105,110]⟩],true):=by kernel_rfl
theorem wdV1:wdR ⟨#[109,101,116,104,111,100,32,109,97,105,110,32,115,116,97,116,105,99,32,45]⟩=([⟨#[109,101,116,104,111,100]⟩,⟨#[109,97,105,110]⟩,⟨#[115,116,97,116,105,99]⟩,⟨#[45]⟩],true):=by kernel_rfl
theorem wdV2:wdR ⟨#[102,117,110,99,32,77,97,105,110,32,109,97,105,110]⟩=([⟨#[102,117,110,99]⟩,⟨#[77,97,105,110]⟩,⟨#[109,97,105,110]⟩],true):=by kernel_rfl
theorem wdV3:wdR ⟨#[118,97,114,32,120,32,105,110,116]⟩=([⟨#[118,97,114]⟩,⟨#[120]⟩,⟨#[105,110,116]⟩],true):=by kernel_rfl
theorem wdV4:wdR ⟨#[45,49,32,105,110,112,117,116,32,48]⟩=([⟨#[45,49]⟩,⟨#[105,110,112,117,116]⟩,⟨#[48]⟩],true):=by kernel_rfl
theorem wdV5:wdR ⟨#[45,49,32,114,101,116,117,114,110,32,45,49]⟩=([⟨#[45,49]⟩,⟨#[114,101,116,117,114,110]⟩,⟨#[45,49]⟩],true):=by kernel_rfl
def untV:Unt:=⟨[⟨⟨#[77,97,105,110]⟩,⟨#[]⟩,[],[⟨⟨#[109,97,105,110]⟩,true,[],⟨#[]⟩⟩]⟩],[⟨⟨#[77,97,105,110]⟩,⟨#[109,97,105,110]⟩,true,0,[⟨⟨#[120]⟩,⟨#[105,110,116]⟩⟩],⟨#[]⟩,[⟨5,0,0,0,0,⟨#[]⟩,⟨#[]⟩,[],0,-1⟩,⟨13,0,-1,0,0,⟨#[]⟩,⟨#[]⟩,[],0,-1⟩]⟩],0⟩
def RetV(w':World)(e:Ending):Prop:=∃(AC AF:Option Addr) (cC cF:Nat),e = .returned (.tuple #[.agg #[.slice AC 1 cC,.slice AF 1 cF,.int .i64 0],.int .i64 0,.int .i64 0])∧1≤cC∧1≤cF∧Sl Lay.cls w' AC untV.classes∧Sl Lay.fun w' AF untV.funcs
theorem slsV{w:World}{B gC cC gM cM gF cF gV cV gJ cJ:Nat}(hC:Own jw 4 B 94 w (.slice (some ⟨gC,0,none⟩) 1 cC) [clV gM cM])(hM:Own jO 4 B 36 w (.slice (some ⟨gM,0,none⟩) 1 cM) [sgV])(hF:Own qz 7 B 42 w (.slice (some ⟨gF,0,none⟩) 1 cF) [fnV [fdV] [inV1.1,inV2.1] (some ⟨gV,0,none⟩,cV) (some ⟨gJ,0,none⟩,cJ)])(hV:Own qM 2 B 61 w (.slice (some ⟨gV,0,none⟩) 1 cV) [fdV])(hI:Own jP 10 B 59 w (.slice (some ⟨gJ,0,none⟩) 2 cJ) [inV1,inV2]) :
  (1≤cC∧Sl Lay.cls w (some ⟨gC,0,none⟩) untV.classes)∧(1≤cF∧Sl Lay.fun w (some ⟨gF,0,none⟩) untV.funcs):=by
 have HCs:=ado (M:=Lay.cls) (g:=(·.1)) hC qR rfl (fun x hx=>by obtain rfl:=List.mem_singleton.1 hx;exact ClsI.rep (lo:=B) ⟨Own.nil,[sgV],hM,rfl,fun y hy=>by obtain rfl:=List.mem_singleton.1 hy;exact Own.nil⟩)
 have HFs:=ado (M:=Lay.fun) (g:=(·.1)) hF zV rfl (fun x hx=>by obtain rfl:=List.mem_singleton.1 hx;exact FunI.rep (lo:=B) ⟨hV,[inV1,inV2],hI,rfl,fun y hy=>by
  rcases List.mem_cons.1 hy with rfl|hy
  ·exact Own.nil
  ·obtain rfl:=List.mem_singleton.1 hy;exact Own.nil⟩)
 exact⟨HCs.2,HFs.2⟩
theorem okS(s:ByteArray)(h:decide (s.size≤maxLen)=true):zG s:=by unfold zG;exact of_decide_eq_true h
theorem aed:yQ untV.classes:=fun x hx=>by
 obtain rfl:=List.mem_singleton.1 hx
 exact⟨⟨okS _ (by kernel_rfl),okS _ (by kernel_rfl)⟩,fun f hf=>(by cases hf),fun m hm=>by
  obtain rfl:=List.mem_singleton.1 hm;exact⟨okS _ (by kernel_rfl),okS _ (by kernel_rfl),fun p hp=>by cases hp⟩⟩
theorem acP:yp untV.classes:=fun x hx=>by
 obtain rfl:=List.mem_singleton.1 hx
 exact⟨by decide,by decide,fun m hm=>by
  obtain rfl:=List.mem_singleton.1 hm
  decide⟩
theorem aee:∀f∈untV.funcs,afG f:=fun f hf=>by
 obtain rfl:=List.mem_singleton.1 hf;refine⟨by decide,fun v hv=>?_,by decide,fun x hx=>?_,okS _ (by kernel_rfl)⟩
 ·obtain rfl:=List.mem_singleton.1 hv
  exact⟨okS _ (by kernel_rfl),okS _ (by kernel_rfl)⟩
 ·rcases List.mem_cons.1 hx with rfl|hx
  ·exact⟨okS _ (by kernel_rfl),by decide⟩
  ·obtain rfl:=List.mem_singleton.1 hx
   exact⟨okS _ (by kernel_rfl),by decide⟩
theorem agK:∀f∈untV.funcs,∀x∈f.code,x.args.length≤17592186043904:=fun f hf x hx=>by
 obtain rfl:=List.mem_singleton.1 hf
 rcases List.mem_cons.1 hx with rfl|hx
 ·decide
 ·obtain rfl:=List.mem_singleton.1 hx
  decide
theorem aiG:∀f∈untV.funcs,∀x∈f.code,x.op=5∨x.op=13:=fun f hf x hx=>by
 obtain rfl:=List.mem_singleton.1 hf
 rcases List.mem_cons.1 hx with rfl|hx
 ·exact Or.inl rfl
 ·obtain rfl:=List.mem_singleton.1 hx
  exact Or.inr rfl
theorem ajf{w:World}{AC AF:Option Addr}{c0:Nat}(hc:1≤c0)(hs:Sl Lay.cls w AC untV.classes)(hf:Sl Lay.fun w AF untV.funcs):UnR w untV AC AF c0:=
 ⟨by decide,hc,hs,aed,acP,hf,by decide,aee⟩
theorem aef:chkE untV=(0,0,0):=by kernel_rfl
theorem af0(w:World):Calls Tryz.prog 37 #[.string ⟨#[99,108,97,115,115,32,77,97,105,110,10,109,101,116,104,111,100,32,109,97,105,110,32,115,116,97,116,105,99,32,45,10,102,117,110,99,32,77,97,105,110,32,109,97,105,110,10,118,97,114,32,120,32,105,110,116,10,45,49,32,105,110,112,117,116,32,48,10,45,49,32,114,101,116,117,114,110,32,45,49,10]⟩] w fun e w'=>RetV w' e∧Below w.heap.size w w':=by
 have HLN:Hid (∀W,Calls Tryz.prog 72 #[.string ⟨#[99,108,97,115,115,32,77,97,105,110,10,109,101,116,104,111,100,32,109,97,105,110,32,115,116,97,116,105,99,32,45,10,102,117,110,99,32,77,97,105,110,32,109,97,105,110,10,118,97,114,32,120,32,105,110,116,10,45,49,32,105,110,112,117,116,32,48,10,45,49,32,114,101,116,117,114,110,32,45,49,10]⟩] W fun e w'=>ju W w' ([⟨#[99,108,97,115,115,32,77,97,105,110]⟩,⟨#[109,101,116,104,111,100,32,109,97,105,110,32,115,116,97,116,105,99,32,45]⟩,⟨#[102,117,110,99,32,77,97,105,110,32,109,97,105,110]⟩,⟨#[118,97,114,32,120,32,105,110,116]⟩,⟨#[45,49,32,105,110,112,117,116,32,48]⟩,⟨#[45,49,32,114,101,116,117,114,110,32,45,49]⟩],true) e∧Below W.heap.size W w'):=fun W=>by
  have:=ad8 txtV W (by decide);rwa[lnV] at this
 have HWD0:Hid (∀W,Calls Tryz.prog 73 #[.string ⟨#[99,108,97,115,115,32,77,97,105,110]⟩] W fun e w'=>ju W w' ([⟨#[99,108,97,115,115]⟩,⟨#[77,97,105,110]⟩],true) e∧Below W.heap.size W w'):=fun W=>by
  have:=qG ⟨#[99,108,97,115,115,32,77,97,105,110]⟩ W (by decide);rwa[wdV0] at this
 have HWD1:Hid (∀W,Calls Tryz.prog 73 #[.string ⟨#[109,101,116,104,111,100,32,109,97,105,110,32,115,116,97,116,105,99,32,45]⟩] W fun e w'=>ju W w' ([⟨#[109,101,116,104,111,100]⟩,⟨#[109,97,105,110]⟩,⟨#[115,116,97,116,105,99]⟩,⟨#[45]⟩],true) e∧Below W.heap.size W w'):=fun W=>by
  have:=qG ⟨#[109,101,116,104,111,100,32,109,97,105,110,32,115,116,97,116,105,99,32,45]⟩ W (by decide);rwa[wdV1] at this
 have HWD2:Hid (∀W,Calls Tryz.prog 73 #[.string ⟨#[102,117,110,99,32,77,97,105,110,32,109,97,105,110]⟩] W fun e w'=>ju W w' ([⟨#[102,117,110,99]⟩,⟨#[77,97,105,110]⟩,⟨#[109,97,105,110]⟩],true) e∧Below W.heap.size W w'):=fun W=>by
  have:=qG ⟨#[102,117,110,99,32,77,97,105,110,32,109,97,105,110]⟩ W (by decide);rwa[wdV2] at this
 have HWD3:Hid (∀W,Calls Tryz.prog 73 #[.string ⟨#[118,97,114,32,120,32,105,110,116]⟩] W fun e w'=>ju W w' ([⟨#[118,97,114]⟩,⟨#[120]⟩,⟨#[105,110,116]⟩],true) e∧Below W.heap.size W w'):=fun W=>by
  have:=qG ⟨#[118,97,114,32,120,32,105,110,116]⟩ W (by decide);rwa[wdV3] at this
 have HWD4:Hid (∀W,Calls Tryz.prog 73 #[.string ⟨#[45,49,32,105,110,112,117,116,32,48]⟩] W fun e w'=>ju W w' ([⟨#[45,49]⟩,⟨#[105,110,112,117,116]⟩,⟨#[48]⟩],true) e∧Below W.heap.size W w'):=fun W=>by
  have:=qG ⟨#[45,49,32,105,110,112,117,116,32,48]⟩ W (by decide);rwa[wdV4] at this
 have HWD5:Hid (∀W,Calls Tryz.prog 73 #[.string ⟨#[45,49,32,114,101,116,117,114,110,32,45,49]⟩] W fun e w'=>ju W w' ([⟨#[45,49]⟩,⟨#[114,101,116,117,114,110]⟩,⟨#[45,49]⟩],true) e∧Below W.heap.size W w'):=fun W=>by
  have:=qG ⟨#[45,49,32,114,101,116,117,114,110,32,45,49]⟩ W (by decide);rwa[wdV5] at this
 go_enter Tryz.func37,Tryz.ntmps37
 go_upto_region 3 with fail
 generalize hW:World.alloc _ _=W1 at *
 have hb1:Below w.heap.size w W1:=by rw[←hW];exact(by repeat(first|assumption|exact v9r|apply zc|apply zd|apply zg|apply ze|apply zi))
 have br1:Box W1 w.heap.size [.slice none 0 0,.slice none 0 0,.int .i64 0] 32:=by rw[←hW];exact Box.new _ _ _
 clear hW
 go_wp2_with fail
 refine(HLN.out _).mono ?_;rintro e V ⟨⟨v,rfl,hL0⟩,hb⟩;replace hL0:=Own.base0 hL0 hb1.size;obtain⟨gL,cL,rfl⟩:=hL0.someOf (by simp);have brV:=br1.mono hb;have hbV:=za hb1 hb;clear br1 hb1 hb
 go_upto_region 5 with fail
 generalize hW:World.alloc _ _=W2 at *
 have hbw:Below w.heap.size w W2:=by rw[←hW];exact zc hbV
 have br:Box W2 w.heap.size [.slice none 0 0,.slice none 0 0,.int .i64 0] 32:=by rw[←hW];exact brV.alloc _
 have bu:Box W2 V.heap.size [.slice none 0 0,.slice none 0 0,.int .i64 0] 32:=by rw[←hW];exact Box.new _ _ _
 have hL:Own yd 1 w.heap.size 9 W2 (.slice (some ⟨gL,0,none⟩) 6 cL) [⟨#[99,108,97,115,115,32,77,97,105,110]⟩,⟨#[109,101,116,104,111,100,32,109,97,105,110,32,115,116,97,116,105,99,32,45]⟩,⟨#[102,117,110,99,32,77,97,105,110,32,109,97,105,110]⟩,⟨#[118,97,114,32,120,32,105,110,116]⟩,⟨#[45,49,32,105,110,112,117,116,32,48]⟩,⟨#[45,49,32,114,101,116,117,114,110,32,45,49]⟩]:=by rw[←hW];exact hL0.alloc _
 have hUV:=hbV.size;have hne:=brV.lt;generalize V.heap.size=bU at *
 clear hW brV hbV hL0
 go_wp2_with fail
 refine wp_loop_rounds 7 ?_;rw[rounds_succ];have l0:=zR hL rfl (i:=0) (x:=⟨#[99,108,97,115,115,32,77,97,105,110]⟩) rfl;have ll:=(Own.ltOf hL).2
 go_wp2_with fail
 refine(HWD0.out _).mono ?_;rintro e V0 ⟨⟨v,rfl,how⟩,hb⟩;obtain⟨g0,c0,rfl⟩:=how.someOf (by simp);clear l0 ll;have bu':=bu.mono hb;have br':=br.mono hb;have hL':=hL.mono hb;have hbw':=za hbw hb;clear bu br hL hbw  hb;have hc0:2≤c0:=kO how rfl;have hg0:=(Own.ltOf how).2;have w0:=zR how rfl (i:=0) (x:=⟨#[99,108,97,115,115]⟩) rfl;have w1:=zR how rfl (i:=1) (x:=⟨#[77,97,105,110]⟩) rfl;have HH:=v9h (aeT V0 g0 c0 hc0 hg0 w0 w1);clear w1 how hc0;have q0:=bu'.cell 0 rfl;have q1:=bu'.cell 1 rfl;have q2:=bu'.cell 2 rfl;have qf:=fun i=>bu'.free i
 have ql:=bu'.lt
 go_wp2_with fail
 refine HH.out.mono ?_;rintro e X0 ⟨⟨gC,cC,rfl,hC⟩,hb⟩;replace hC:=Own.base0 hC hbw'.size;have bu:=bu'.mono hb;have br:=br'.mono hb;have hL:=hL'.mono hb;have hbw:=za hbw' hb;clear bu' br' hL' hbw'  q0 q1 q2 qf ql w0 hg0 HH;have q0:=bu.cell 0 rfl;have q1:=bu.cell 1 rfl;have q2:=bu.cell 2 rfl;have qf:=fun i=>bu.free i
 have ql:=bu.lt;have hbU:=bu.lt
 go_upto_region 13 with fail
 have bz:=bu.set 0 (.slice (some ⟨gC,0,none⟩) 1 cC);have hgz:=zq X0 bU 0 (.slice (some ⟨gC,0,none⟩) 1 cC);have br2:=br.grown hgz (by intro hh;injection hh with hh;omega);have hL2:=hL.keptTyI bu.rowTyI (by decide) hgz;have hC2:=hC.keptTyI bu.rowTyI (by decide) hgz;have hbw2:=hbw.grown hgz hbw.size (fun k hk=>by injection hk with hk;omega);clear bu br hL hbw hC q0 q1 q2 qf ql hgz hbU;generalize World.setCell _ _ _=Y0 at *
 have hL:=hL2;have br:=br2;have hbw:=hbw2;have bu:=bz;have hC:=hC2;clear hL2 br2 hbw2 bz hC2
 go_wp2_with fail
 rw[rounds_succ];have l0:=zR hL rfl (i:=1) (x:=⟨#[109,101,116,104,111,100,32,109,97,105,110,32,115,116,97,116,105,99,32,45]⟩) rfl;have ll:=(Own.ltOf hL).2
 go_wp2_with fail
 refine(HWD1.out _).mono ?_;rintro e V1 ⟨⟨v,rfl,how⟩,hb⟩;obtain⟨g1,c1,rfl⟩:=how.someOf (by simp);clear l0 ll;have bu':=bu.mono hb;have br':=br.mono hb;have hL':=hL.mono hb;have hC':=hC.mono hb;have hbw':=za hbw hb;clear bu br hL hbw hC hb;have hc1:4≤c1:=kO how rfl;have hg1:=(Own.ltOf how).2;have w0:=zR how rfl (i:=0) (x:=⟨#[109,101,116,104,111,100]⟩) rfl;have w1:=zR how rfl (i:=1) (x:=⟨#[109,97,105,110]⟩) rfl;have w2:=zR how rfl (i:=2) (x:=⟨#[115,116,97,116,105,99]⟩) rfl;have w3:=zR how rfl (i:=3) (x:=⟨#[45]⟩) rfl;have HH:=v9h (aeU V1 w.heap.size gC cC hbw'.size hC' g1 c1 hc1 hg1 w0 w1 w2 w3);clear w1 w2 w3 how hc1;have q0:=bu'.cell 0 rfl;have q1:=bu'.cell 1 rfl;have q2:=bu'.cell 2 rfl;have qf:=fun i=>bu'.free i
 have ql:=bu'.lt
 go_wp2_with fail
 refine HH.out.mono ?_;rintro e X1 ⟨gM,cM,rfl,hC,hM,hg⟩;replace hM:=Own.base0 hM hbw'.size;have bu:=bu'.keptTyI (Own.rowTyI hC') (by decide) hg;have br:=br'.keptTyI (Own.rowTyI hC') (by decide) hg;have hL:=hL'.keptTyI (Own.rowTyI hC') (by decide) hg;have hbw:=hbw'.grown hg hbw'.size (fun k hk=>by injection hk with hk;have:=(Own.ltOf hC').1;omega);clear bu' br' hL' hbw' hC' q0 q1 q2 qf ql w0 hg1 HH;have q0:=bu.cell 0 rfl;have q1:=bu.cell 1 rfl;have q2:=bu.cell 2 rfl;have qf:=fun i=>bu.free i
 have ql:=bu.lt;have hbU:=bu.lt
 go_upto_region 13 with fail
 have bz:=bu.set 0 (.slice (some ⟨gC,0,none⟩) 1 cC);have hgz:=zq X1 bU 0 (.slice (some ⟨gC,0,none⟩) 1 cC);have br2:=br.grown hgz (by intro hh;injection hh with hh;omega);have hL2:=hL.keptTyI bu.rowTyI (by decide) hgz;have hC2:=hC.keptTyI bu.rowTyI (by decide) hgz;have hM2:=hM.keptTyI bu.rowTyI (by decide) hgz;have hbw2:=hbw.grown hgz hbw.size (fun k hk=>by injection hk with hk;omega);clear bu br hL hbw hC hM q0 q1 q2 qf ql hgz hbU;generalize World.setCell _ _ _=Y1 at *
 have hL:=hL2;have br:=br2;have hbw:=hbw2;have bu:=bz;have hC:=hC2;have hM:=hM2;clear hL2 br2 hbw2 bz hC2 hM2
 go_wp2_with fail
 rw[rounds_succ];have l0:=zR hL rfl (i:=2) (x:=⟨#[102,117,110,99,32,77,97,105,110,32,109,97,105,110]⟩) rfl;have ll:=(Own.ltOf hL).2
 go_wp2_with fail
 refine(HWD2.out _).mono ?_;rintro e V2 ⟨⟨v,rfl,how⟩,hb⟩;obtain⟨g2,c2,rfl⟩:=how.someOf (by simp);clear l0 ll;have bu':=bu.mono hb;have br':=br.mono hb;have hL':=hL.mono hb;have hC':=hC.mono hb;have hM':=hM.mono hb;have hbw':=za hbw hb;clear bu br hL hbw hC hM hb;have hc2:3≤c2:=kO how rfl;have hg2:=(Own.ltOf how).2;have w0:=zR how rfl (i:=0) (x:=⟨#[102,117,110,99]⟩) rfl;have w1:=zR how rfl (i:=1) (x:=⟨#[77,97,105,110]⟩) rfl;have w2:=zR how rfl (i:=2) (x:=⟨#[109,97,105,110]⟩) rfl;have HH:=v9h (aea V2 w.heap.size w.heap.size gC cC gM cM hC' hM' g2 c2 hc2 hg2 w0 w1 w2);clear w1 w2 how hc2;have q0:=bu'.cell 0 rfl;have q1:=bu'.cell 1 rfl;have q2:=bu'.cell 2 rfl;have qf:=fun i=>bu'.free i
 have ql:=bu'.lt
 go_wp2_with fail
 refine HH.out.mono ?_;rintro e X2 ⟨⟨gF,cF,rfl,hF⟩,hb⟩;replace hF:=Own.base0 hF hbw'.size;have bu:=bu'.mono hb;have br:=br'.mono hb;have hL:=hL'.mono hb;have hC:=hC'.mono hb;have hM:=hM'.mono hb;have hbw:=za hbw' hb;clear bu' br' hL' hbw' hC' hM' q0 q1 q2 qf ql w0 hg2 HH;have q0:=bu.cell 0 rfl;have q1:=bu.cell 1 rfl;have q2:=bu.cell 2 rfl;have qf:=fun i=>bu.free i
 have ql:=bu.lt;have hbU:=bu.lt
 go_upto_region 13 with fail
 obtain⟨bz,hgz⟩:=bu.store3 (.slice (some ⟨gC,0,none⟩) 1 cC) (.slice (some ⟨gF,0,none⟩) 1 cF) (.int .i64 0);have br2:=br.grown hgz (by intro hh;injection hh with hh;omega);have hL2:=hL.keptTyI bu.rowTyI (by decide) hgz;have hC2:=hC.keptTyI bu.rowTyI (by decide) hgz;have hM2:=hM.keptTyI bu.rowTyI (by decide) hgz;have hF2:=hF.keptTyI bu.rowTyI (by decide) hgz;have hbw2:=hbw.grown hgz hbw.size (fun k hk=>by injection hk with hk;omega);clear bu br hL hbw hC hM hF q0 q1 q2 qf ql hgz hbU;generalize World.setCell _ _ _=Y2 at *
 have hL:=hL2;have br:=br2;have hbw:=hbw2;have bu:=bz;have hC:=hC2;have hM:=hM2;have hF:=hF2;clear hL2 br2 hbw2 bz hC2 hM2 hF2
 go_wp2_with fail
 rw[rounds_succ];have l0:=zR hL rfl (i:=3) (x:=⟨#[118,97,114,32,120,32,105,110,116]⟩) rfl;have ll:=(Own.ltOf hL).2
 go_wp2_with fail
 refine(HWD3.out _).mono ?_;rintro e V3 ⟨⟨v,rfl,how⟩,hb⟩;obtain⟨g3,c3,rfl⟩:=how.someOf (by simp);clear l0 ll;have bu':=bu.mono hb;have br':=br.mono hb;have hL':=hL.mono hb;have hC':=hC.mono hb;have hM':=hM.mono hb;have hF':=hF.mono hb;have hbw':=za hbw hb;clear bu br hL hbw hC hM hF hb;have hc3:3≤c3:=kO how rfl;have hg3:=(Own.ltOf how).2;have w0:=zR how rfl (i:=0) (x:=⟨#[118,97,114]⟩) rfl;have w1:=zR how rfl (i:=1) (x:=⟨#[120]⟩) rfl;have w2:=zR how rfl (i:=2) (x:=⟨#[105,110,116]⟩) rfl;have HH:=v9h (aeV V3 w.heap.size gC cC gF cF hbw'.size hF' g3 c3 hc3 hg3 w0 w1 w2);clear w1 w2 how hc3;have q0:=bu'.cell 0 rfl;have q1:=bu'.cell 1 rfl;have q2:=bu'.cell 2 rfl;have qf:=fun i=>bu'.free i
 have ql:=bu'.lt
 go_wp2_with fail
 refine HH.out.mono ?_;rintro e X3 ⟨gV,cV,rfl,hF,hV,hk,hB⟩;replace hV:=Own.base0 hV hbw'.size;have bu:=bu'.keptP hk (by decide) (by decide);have br:=br'.keptP hk (by decide) (by decide);have hL:=hL'.keptP hk (by decide) (by decide);have hC:=hC'.keptP hk (by decide) (by decide);have hM:=hM'.keptP hk (by decide) (by decide);have hbw:=hbw'.trans hB;clear bu' br' hL' hbw' hC' hM' hF' q0 q1 q2 qf ql w0 hg3 HH;have q0:=bu.cell 0 rfl;have q1:=bu.cell 1 rfl;have q2:=bu.cell 2 rfl;have qf:=fun i=>bu.free i
 have ql:=bu.lt;have hbU:=bu.lt
 go_upto_region 13 with fail
 obtain⟨bz,hgz⟩:=bu.store3 (.slice (some ⟨gC,0,none⟩) 1 cC) (.slice (some ⟨gF,0,none⟩) 1 cF) (.int .i64 0);have br2:=br.grown hgz (by intro hh;injection hh with hh;omega);have hL2:=hL.keptTyI bu.rowTyI (by decide) hgz;have hC2:=hC.keptTyI bu.rowTyI (by decide) hgz;have hM2:=hM.keptTyI bu.rowTyI (by decide) hgz;have hF2:=hF.keptTyI bu.rowTyI (by decide) hgz;have hV2:=hV.keptTyI bu.rowTyI (by decide) hgz;have hbw2:=hbw.grown hgz hbw.size (fun k hk=>by injection hk with hk;omega);clear bu br hL hbw hC hM hF hV q0 q1 q2 qf ql hgz hbU;generalize World.setCell _ _ _=Y3 at *
 have hL:=hL2;have br:=br2;have hbw:=hbw2;have bu:=bz;have hC:=hC2;have hM:=hM2;have hF:=hF2;have hV:=hV2;clear hL2 br2 hbw2 bz hC2 hM2 hF2 hV2
 go_wp2_with fail
 rw[rounds_succ];have l0:=zR hL rfl (i:=4) (x:=⟨#[45,49,32,105,110,112,117,116,32,48]⟩) rfl;have ll:=(Own.ltOf hL).2
 go_wp2_with fail
 refine(HWD4.out _).mono ?_;rintro e V4 ⟨⟨v,rfl,how⟩,hb⟩;obtain⟨g4,c4,rfl⟩:=how.someOf (by simp);clear l0 ll;have bu':=bu.mono hb;have br':=br.mono hb;have hL':=hL.mono hb;have hC':=hC.mono hb;have hM':=hM.mono hb;have hF':=hF.mono hb;have hV':=hV.mono hb;have hbw':=za hbw hb;clear bu br hL hbw hC hM hF hV hb;have hc4:3≤c4:=kO how rfl;have hg4:=(Own.ltOf how).2;have w0:=zR how rfl (i:=0) (x:=⟨#[45,49]⟩) rfl;have w1:=zR how rfl (i:=1) (x:=⟨#[105,110,112,117,116]⟩) rfl;have w2:=zR how rfl (i:=2) (x:=⟨#[48]⟩) rfl;have HH:=v9h (afY V4 w.heap.size gC cC gF cF gV cV hbw'.size hF' g4 c4 hc4 hg4 w0 w1 w2);clear w1 w2 how hc4;have q0:=bu'.cell 0 rfl;have q1:=bu'.cell 1 rfl;have q2:=bu'.cell 2 rfl;have qf:=fun i=>bu'.free i
 have ql:=bu'.lt
 go_wp2_with fail
 refine HH.out.mono ?_;rintro e X4 ⟨gI,cI,rfl,hF,hI,hk,hB⟩;have hV:=hV'.keptP hk (by decide) (by decide);have bu:=bu'.keptP hk (by decide) (by decide);have br:=br'.keptP hk (by decide) (by decide);have hL:=hL'.keptP hk (by decide) (by decide);have hC:=hC'.keptP hk (by decide) (by decide);have hM:=hM'.keptP hk (by decide) (by decide);have hbw:=hbw'.trans hB;clear bu' br' hL' hbw' hC' hM' hF' hV' q0 q1 q2 qf ql w0 hg4 HH;have q0:=bu.cell 0 rfl;have q1:=bu.cell 1 rfl;have q2:=bu.cell 2 rfl;have qf:=fun i=>bu.free i
 have ql:=bu.lt;have hbU:=bu.lt
 go_upto_region 13 with fail
 obtain⟨bz,hgz⟩:=bu.store3 (.slice (some ⟨gC,0,none⟩) 1 cC) (.slice (some ⟨gF,0,none⟩) 1 cF) (.int .i64 0);have br2:=br.grown hgz (by intro hh;injection hh with hh;omega);have hL2:=hL.keptTyI bu.rowTyI (by decide) hgz;have hC2:=hC.keptTyI bu.rowTyI (by decide) hgz;have hM2:=hM.keptTyI bu.rowTyI (by decide) hgz;have hF2:=hF.keptTyI bu.rowTyI (by decide) hgz;have hV2:=hV.keptTyI bu.rowTyI (by decide) hgz;have hI2:=hI.keptTyI bu.rowTyI (by decide) hgz;have hbw2:=hbw.grown hgz hbw.size (fun k hk=>by injection hk with hk;omega);clear bu br hL hbw hC hM hF hV hI q0 q1 q2 qf ql hgz hbU;generalize World.setCell _ _ _=Y4 at *
 have hL:=hL2;have br:=br2;have hbw:=hbw2;have bu:=bz;have hC:=hC2;have hM:=hM2;have hF:=hF2;have hV:=hV2;have hI:=hI2;clear hL2 br2 hbw2 bz hC2 hM2 hF2 hV2 hI2
 go_wp2_with fail
 rw[rounds_succ];have l0:=zR hL rfl (i:=5) (x:=⟨#[45,49,32,114,101,116,117,114,110,32,45,49]⟩) rfl;have ll:=(Own.ltOf hL).2
 go_wp2_with fail
 refine(HWD5.out _).mono ?_;rintro e V5 ⟨⟨v,rfl,how⟩,hb⟩;obtain⟨g5,c5,rfl⟩:=how.someOf (by simp);clear l0 ll;have bu':=bu.mono hb;have br':=br.mono hb;have hL':=hL.mono hb;have hC':=hC.mono hb;have hM':=hM.mono hb;have hF':=hF.mono hb;have hV':=hV.mono hb;have hI':=hI.mono hb;have hbw':=za hbw hb;clear bu br hL hbw hC hM hF hV hI hb;have hc5:3≤c5:=kO how rfl;have hg5:=(Own.ltOf how).2;have w0:=zR how rfl (i:=0) (x:=⟨#[45,49]⟩) rfl;have w1:=zR how rfl (i:=1) (x:=⟨#[114,101,116,117,114,110]⟩) rfl;have w2:=zR how rfl (i:=2) (x:=⟨#[45,49]⟩) rfl;have HH:=v9h (afZ V5 w.heap.size gC cC gF cF gV cV gI cI hbw'.size hF' hI' g5 c5 hc5 hg5 w0 w1 w2);clear w1 w2 how hc5;have q0:=bu'.cell 0 rfl;have q1:=bu'.cell 1 rfl;have q2:=bu'.cell 2 rfl;have qf:=fun i=>bu'.free i
 have ql:=bu'.lt
 go_wp2_with fail
 refine HH.out.mono ?_;rintro e X5 ⟨gJ,cJ,rfl,hF,hI,hk,hB⟩;have hV:=hV'.keptP hk (by decide) (by decide);have bu:=bu'.keptP hk (by decide) (by decide);have br:=br'.keptP hk (by decide) (by decide);have hL:=hL'.keptP hk (by decide) (by decide);have hC:=hC'.keptP hk (by decide) (by decide);have hM:=hM'.keptP hk (by decide) (by decide);have hbw:=hbw'.trans hB;clear bu' br' hL' hbw' hC' hM' hF' hV' hI' q0 q1 q2 qf ql w0 hg5 HH;have q0:=bu.cell 0 rfl;have q1:=bu.cell 1 rfl;have q2:=bu.cell 2 rfl;have qf:=fun i=>bu.free i
 have ql:=bu.lt;have hbU:=bu.lt
 go_upto_region 13 with fail
 obtain⟨bz,hgz⟩:=bu.store3 (.slice (some ⟨gC,0,none⟩) 1 cC) (.slice (some ⟨gF,0,none⟩) 1 cF) (.int .i64 0);have br2:=br.grown hgz (by intro hh;injection hh with hh;omega);have hL2:=hL.keptTyI bu.rowTyI (by decide) hgz;have hC2:=hC.keptTyI bu.rowTyI (by decide) hgz;have hM2:=hM.keptTyI bu.rowTyI (by decide) hgz;have hF2:=hF.keptTyI bu.rowTyI (by decide) hgz;have hV2:=hV.keptTyI bu.rowTyI (by decide) hgz;have hI2:=hI.keptTyI bu.rowTyI (by decide) hgz;have hbw2:=hbw.grown hgz hbw.size (fun k hk=>by injection hk with hk;omega);clear bu br hL hbw hC hM hF hV hI q0 q1 q2 qf ql hgz hbU;generalize World.setCell _ _ _=Y5 at *
 have hL:=hL2;have br:=br2;have hbw:=hbw2;have bu:=bz;have hC:=hC2;have hM:=hM2;have hF:=hF2;have hV:=hV2;have hI:=hI2;clear hL2 br2 hbw2 bz hC2 hM2 hF2 hV2 hI2
 go_wp2_with fail
 rw[rounds_succ];have HS:=v9h (slsV hC hM hF hV hI);have HFD:=v9h (ade (some ⟨gC,0,none⟩) (some ⟨gF,0,none⟩) 1 cC cF 0 untV.funcs ⟨#[77,97,105,110]⟩ ⟨#[109,97,105,110]⟩ Y5 (by decide) HS.out.2.2);rw[show qE untV.funcs ⟨#[77,97,105,110]⟩ ⟨#[109,97,105,110]⟩=0 by kernel_rfl,show untV.funcs.length=1 from rfl] at HFD;clear HS hL;have q0:=bu.cell 0 rfl;have q1:=bu.cell 1 rfl;have q2:=bu.cell 2 rfl;have qf:=fun i=>bu.free i
 have ql:=bu.lt
 go_wp2_with fail
 refine HFD.out.mono ?_;rintro e Y6 ⟨rfl,hb⟩;have bu6:=bu.mono hb;have br6:=br.mono hb;have hbw6:=za hbw hb;have hC6:=hC.mono hb;have hM6:=hM.mono hb;have hF6:=hF.mono hb;have hV6:=hV.mono hb;have hI6:=hI.mono hb;clear HFD bu br hbw hb q0 q1 q2 qf ql hC hM hF hV hI;have hbU:=bu6.lt;have q0:=bu6.cell 0 rfl;have q1:=bu6.cell 1 rfl;have q2:=bu6.cell 2 rfl;have qf:=fun i=>bu6.free i
 have ql:=bu6.lt
 go_upto_region 16 with fail
 have bu7:=bu6.set 2 (.int .i64 0);have hgz:=zq Y6 bU 2 (.int .i64 0);have br7:=br6.grown hgz (by intro hh;injection hh with hh;omega);have hbw7:=hbw6.grown hgz hbw6.size (fun k hk=>by injection hk with hk;omega);have hC7:=hC6.keptTyI bu6.rowTyI (by decide) hgz;have hM7:=hM6.keptTyI bu6.rowTyI (by decide) hgz;have hF7:=hF6.keptTyI bu6.rowTyI (by decide) hgz;have hV7:=hV6.keptTyI bu6.rowTyI (by decide) hgz;have hI7:=hI6.keptTyI bu6.rowTyI (by decide) hgz;clear bu6 br6 hbw6 hC6 hM6 hF6 hV6 hI6 q0 q1 q2 qf ql hgz hbU;generalize World.setCell _ _ _=Y7 at *
 have HS:=v9h (slsV hC7 hM7 hF7 hV7 hI7);have HCK:=v9h (aca untV (some ⟨gC,0,none⟩) (some ⟨gF,0,none⟩) cC cF Y7 (v9h (ajf HS.out.1.1 HS.out.1.2 HS.out.2.2)) (v9h agK) (v9h aiG));rw[aef,show untV.funcs.length=1 from rfl,show untV.classes.length=1 from rfl,show untV.main=0 from rfl] at HCK;unfold tri at HCK;clear HS;have q0:=bu7.cell 0 rfl;have q1:=bu7.cell 1 rfl;have q2:=bu7.cell 2 rfl;have qf:=fun i=>bu7.free i
 have ql:=bu7.lt
 go_wp2_with fail
 refine HCK.out.mono ?_;rintro e Y8 ⟨rfl,hb⟩;have bu8:=bu7.mono hb;have br8:=br7.mono hb;have hbw8:=za hbw7 hb;have hC8:=hC7.mono hb;have hM8:=hM7.mono hb;have hF8:=hF7.mono hb;have hV8:=hV7.mono hb;have hI8:=hI7.mono hb;clear HCK bu7 br7 hbw7 hb q0 q1 q2 qf ql hC7 hM7 hF7 hV7 hI7;have q0:=bu8.cell 0 rfl;have q1:=bu8.cell 1 rfl;have q2:=bu8.cell 2 rfl;have qf:=fun i=>bu8.free i
 have ql:=bu8.lt;have z0:=br8.cell 0 rfl;have z1:=br8.cell 1 rfl;have z2:=br8.cell 2 rfl;have zf:=fun i=>br8.free i
 have zl:=br8.lt
 go_wp2_with fail
 obtain⟨bz,hgz⟩:=br8.store3 (.slice (some ⟨gC,0,none⟩) 1 cC) (.slice (some ⟨gF,0,none⟩) 1 cF) (.int .i64 0);have hbz:=hbw8.grown hgz hbw8.size (fun k hk=>by injection hk with hk;omega);have HS:=v9h (slsV (hC8.keptTyI br8.rowTyI (by decide) hgz) (hM8.keptTyI br8.rowTyI (by decide) hgz) (hF8.keptTyI br8.rowTyI (by decide) hgz) (hV8.keptTyI br8.rowTyI (by decide) hgz) (hI8.keptTyI br8.rowTyI (by decide) hgz));clear bu8 br8 hbw8 hC8 hM8 hF8 hV8 hI8 q0 q1 q2 qf ql z0 z1 z2 zf zl hgz;generalize World.setCell _ _ _=wz at *
 have y0:=bz.cell 0 rfl;have y1:=bz.cell 1 rfl;have y2:=bz.cell 2 rfl;have yf:=fun i=>bz.free i
 have yl:=bz.lt;clear yf yl;refine bodyPost_ret (v:= .tuple #[.agg #[.slice (some ⟨gC,0,none⟩) 1 cC,.slice (some ⟨gF,0,none⟩) 1 cF,.int .i64 0],.int .i64 0,.int .i64 0]) (by simp[results,Tryz.results37,go_sem,y0,y1,y2]) rfl ?_;exact⟨⟨_,_,_,_,rfl,HS.out.1.1,HS.out.2.1,HS.out.1.2,HS.out.2.2⟩,hbz⟩
theorem aas{B:Nat}{w w':World}{row:Option Nat}(hg:w.grownBy w' row)(hB:B≤w.heap.size)(h:∀k,row=some k→B≤k):Below B w w':=⟨hg.os,hg.tape,hg.output,hg.size,fun k hk=>hg.block k (Nat.lt_of_lt_of_le hk hB) (fun e=>by have:=h k e.symm;omega)⟩
def RetI(x:Ins)(w':World)(e:Ending):Prop:=∃(AI:Option Addr) (cI:Nat),e = .returned (.agg #[.int .i64 x.op,.int .i64 x.dst,.int .i64 x.a,.int .i64 x.b,.int .i64 x.n,.string x.cls,.string x.name,.slice AI x.args.length cI,.int .i64 x.jmp,.int .i64 x.hnd])∧x.args.length≤cI∧Sl Lay.int w' AI x.args
theorem yZ(fs:List Fun)(AF:Option Addr)(cF:Nat)(w:World)(gm gf o i a:Nat)(hi:i<fs.length)(ha:a<fs[i].code.length)(hs:Sl Lay.fun w AF fs)(hm:gm<w.heap.size)(hf:gf<w.heap.size)(h1:w.cell? ⟨gm,1,none⟩=some (.slice AF fs.length cF))(f0:w.cell? ⟨gf,o,none⟩=some (.int .i64 (i:Nat)))(f1:w.cell? ⟨gf,o+1,none⟩=some (.int .i64 (a:Nat))) :
  Calls Tryz.prog 89 #[.pointer (some ⟨gm,0,none⟩),.pointer (some ⟨gf,o,none⟩)] w fun e w'=>RetI fs[i].code[a] w' e∧Below w.heap.size w w':=by
 obtain⟨b,oF,A4,c4,A6,c6,rfl,hb,-,-,-,-,-,-,e6,-,-,hc6,hs6⟩:=hs.fun_at hi;obtain⟨b2,o2,AI,cI,rfl,hb2,i0,i1,i2,i3,i4,i5,i6,i7,i8,i9,hcI,hsI⟩:=hs6.ins_at ha;obtain⟨x,hx⟩:∃x,Hid (x=fs[i].code[a]):=⟨_,v9h rfl⟩
 rw[←hx.out] at i0 i1 i2 i3 i4 i5 i6 i7 i8 i9 hcI hsI ⊢;obtain⟨n6,hn6⟩:∃n6,n6=fs[i].code.length:=⟨_,rfl⟩
 rw[←hn6] at e6 ha;clear hn6 hx hs6 hc6 hs;have hiI:(i:Int)<(fs.length:Int):=by omega
 have haI:(a:Int)<(n6:Int):=by omega
 have hsI0:=hsI
 go_enter Tryz.func89,Tryz.ntmps89
 go_upto_region 1 with fail
 generalize hW:World.alloc _ _=W1 at *
 have hb1:Below w.heap.size w W1:=by rw[←hW];exact(by repeat(first|assumption|exact v9r|apply zc|apply zd|apply zg|apply ze|apply zi))
 have br:Box W1 w.heap.size [.int .i64 0,.int .i64 0,.int .i64 0,.int .i64 0,.int .i64 0,.string ⟨#[]⟩,.string ⟨#[]⟩,.slice none 0 0,.int .i64 0,.int .i64 0] 59:=by rw[←hW];exact Box.new _ _ _
 clear hW;refine zt 18 (by kernel_rfl) (by kernel_rfl) ?_;replace hb1:=hb1.drew;replace br:=br.drew;generalize W1.drew=W2 at *
 replace h1:=keptC h1 hm hb1;replace f0:=keptC f0 hf hb1;replace f1:=keptC f1 hf hb1;replace e6:=keptC e6 hb hb1;replace i0:=keptC i0 hb2 hb1;replace i1:=keptC i1 hb2 hb1;replace i2:=keptC i2 hb2 hb1;replace i3:=keptC i3 hb2 hb1;replace i4:=keptC i4 hb2 hb1;replace i5:=keptC i5 hb2 hb1;replace i6:=keptC i6 hb2 hb1;replace i7:=keptC i7 hb2 hb1;replace i8:=keptC i8 hb2 hb1;replace i9:=keptC i9 hb2 hb1;replace hm:=Nat.lt_of_lt_of_le hm hb1.size;replace hf:=Nat.lt_of_lt_of_le hf hb1.size;replace hb:=Nat.lt_of_lt_of_le hb hb1.size;replace hb2:=Nat.lt_of_lt_of_le hb2 hb1.size;have y0:=br.cell 0 rfl;have y1:=br.cell 1 rfl;have y2:=br.cell 2 rfl;have y3:=br.cell 3 rfl;have y4:=br.cell 4 rfl;have y5:=br.cell 5 rfl;have y6:=br.cell 6 rfl;have y7:=br.cell 7 rfl;have y8:=br.cell 8 rfl;have y9:=br.cell 9 rfl;have yf:=fun i=>br.free i
 have yl:=br.lt;refine RZ.chunkN (f:=0) [0,1,2,3,4,5,6,7,8,9,10,11,12,13,14,15,16,17] (by kernel_rfl) ?_
 ((simp only[zo,List.filterMap,List.getElem?_toArray,List.getElem?_cons_zero,List.getElem?_cons_succ]);(repeat(go_big_quiet_step (fail)));refine wpQuiet_nil ?_)
 (refine RZ.tail (by kernel_rfl) ?_;(simp only[List.drop_succ_cons,List.drop_zero]))
 go_wp2_with fail
 clear y0 y1 y2 y3 y4 y5 y6 y7 y8 y9 yf yl h1 f0 f1 e6 i0 i1 i2 i3 i4 i5 i6 i7 i8 i9;obtain⟨bz,hgz⟩:=br.store10 (.int .i64 x.op) (.int .i64 x.dst) (.int .i64 x.a) (.int .i64 x.b) (.int .i64 x.n) (.string x.cls) (.string x.name) (.slice AI x.args.length cI) (.int .i64 x.jmp) (.int .i64 x.hnd);have hbz:=hb1.grown hgz hb1.size (fun k hk=>by injection hk with hk;omega);generalize World.setCell _ _ _=wz at *
 have y0:=bz.cell 0 rfl;have y1:=bz.cell 1 rfl;have y2:=bz.cell 2 rfl;have y3:=bz.cell 3 rfl;have y4:=bz.cell 4 rfl;have y5:=bz.cell 5 rfl;have y6:=bz.cell 6 rfl;have y7:=bz.cell 7 rfl;have y8:=bz.cell 8 rfl;have y9:=bz.cell 9 rfl;refine bodyPost_ret (v:= .agg #[.int .i64 x.op,.int .i64 x.dst,.int .i64 x.a,.int .i64 x.b,.int .i64 x.n,.string x.cls,.string x.name,.slice AI x.args.length cI,.int .i64 x.jmp,.int .i64 x.hnd]) (by simp[results,Tryz.results89,go_sem,y0,y1,y2,y3,y4,y5,y6,y7,y8,y9]) rfl ?_;exact⟨⟨AI,cI,rfl,hcI,hsI0.mono hbz⟩,hbz⟩
theorem jm(n:Int)(w:World):Calls Tryz.prog 162 #[.int .i64 n] w fun e w'=>e = .returned (.agg #[.int .i64 1,.int .i64 n,.int .i64 0])∧Below w.heap.size w w':=by
 go_enter Tryz.func162,Tryz.ntmps162
 go_upto_region 1 with fail
 generalize hW:World.alloc _ _=W1 at *
 have hb1:Below w.heap.size w W1:=by rw[←hW];exact(by repeat(first|assumption|exact v9r|apply zc|apply zd|apply zg|apply ze|apply zi))
 have br:Box W1 w.heap.size [.int .i64 0,.int .i64 0,.int .i64 0] 63:=by rw[←hW];exact Box.new _ _ _
 clear hW;have y0:=br.cell 0 rfl;have y1:=br.cell 1 rfl;have y2:=br.cell 2 rfl;have yf:=fun i=>br.free i
 have yl:=br.lt
 go_wp2_with fail
 clear y0 y1 y2 yf yl;obtain⟨bz,hgz⟩:=br.store3 (.int .i64 1) (.int .i64 n) (.int .i64 0);have hbz:=hb1.grown hgz hb1.size (fun k hk=>by injection hk with hk;omega);generalize World.setCell _ _ _=wz at *
 have y0:=bz.cell 0 rfl;have y1:=bz.cell 1 rfl;have y2:=bz.cell 2 rfl;refine bodyPost_ret (v:= .agg #[.int .i64 1,.int .i64 n,.int .i64 0]) (by simp[results,Tryz.results162,go_sem,y0,y1,y2]) rfl ?_;exact⟨rfl,hbz⟩
def Lay.vl:Lay Vl:=Lay.plain 3 zI fun _=>rfl
theorem aeg(A:Option Addr)(c:Nat)(l:List Vl)(w:World)(hl:l.length*24≤140737488355328)(hs:Sl Lay.vl w A l) :
  Calls Tryz.prog 88 #[.slice A l.length c] w fun e w'=>(∃v,e = .returned v∧Own zI 3 w.heap.size 63 w' v l)∧Below w.heap.size w w':=by
 have q22:∀(w:World) (a:Option Addr) (n c n' c':Nat),(binOp .eql 52 (.slice a n c) (.slice none n' c')).run Tryz.prog w = .ok (.bool a.isNone) w:=fun w a n c n' c'=>Lib.run_eql_slice_nil w _ _ a n c n' c' Tryz.underlying52
 cases A with
 |none=>
  obtain rfl:=hs.none_nil
  go_enter Tryz.func88,Tryz.ntmps88
  go_wp2_with fail
  go_ret
  exact⟨⟨_,rfl,Own.nil⟩,v9r⟩
 |some ad=>
  have ho:Own zI 3 w.heap.size 63 (w.alloc (.cells #[] 63)) (.slice (some ⟨w.heap.size,0,none⟩) 0 0) ([]:List Vl):=Own.lit w #[] [] (Nat.le_refl _) (by decide) rfl rfl;obtain⟨v',w',hrun,ho',hb',hg',hsz'⟩:=qX (L:=Lay.vl) aaq yc 52 ho (c:=c) (fun x vs h=>h) rfl (hs.mono (zc (v9r))) (by unfold maxLen;simp;omega) (by simp;omega) (by simp)
  go_enter Tryz.func88,Tryz.ntmps88
  go_wp2_with (at_builtin;refine yJ rfl (.tmp 5) (.tmp 6) 52 rfl rfl rfl hrun ?_)
  go_ret
  exact⟨⟨_,rfl,ho'⟩,(zc (v9r)).trans hb'⟩
structure St(w0 w:World)(gm gf cf gv cv:Nat)(AC:Option Addr)(cC:Nat)(AF:Option Addr)(cF:Nat)(i3 s4 s5:Value)(nF:Nat)(a:Int)(v:Vl)(mk:Int)(vO:Value)(obs:List ROb)(en:Int):Prop where
 hw:Below w0.heap.size w0 w
 hB:w0.heap.size≤gm
 sf:Sl Lay.fun w0 AF untV.funcs
 bm:Box w gm [.slice AC 1 cC,.slice AF 1 cF,.int .i64 0,i3,s4,s5,.slice (some ⟨gf,0,none⟩) nF cf,.int .i64 mk,vO,.int .i64 en] 101
 bf:Own jb 8 w0.heap.size 167 w (.slice (some ⟨gf,0,none⟩) 1 cf) [⟨0,a,0,-1,some ⟨gv,0,none⟩,1,cv,(0,0,0)⟩]
 bv:Own zI 3 w0.heap.size 63 w (.slice (some ⟨gv,0,none⟩) 1 cv) [v]
 bo:Own kN 5 w0.heap.size 54 w vO obs
theorem run_copy_nil{P:Program}(w:World)(dT sT ty elem:TypeId)(d:Option Addr)(dLen dCap:Nat)(hu:P.underlying dT=some (.slice elem))(hs:((P.info? elem).map (·.size)).isSome=true) :
  (Builtin.copy_ #[dT,sT] ty #[.slice d dLen dCap,.slice none 0 0]).run P w = .ok (.int .i64 0) w:=by
 cases hq:P.info? elem with
 |none=>simp[hq] at hs
 |some i=>cases d<;>simp[Builtin.copy_,run_underlying hu,Builtin.lenOf,Builtin.firstCells,sizeOf,typeInfo,hq,storeCells,goInt]
theorem St.mono{w0 w w':World}{gm gf cf gv cv:Nat}{AC:Option Addr}{cC:Nat}{AF:Option Addr}{cF:Nat}{i3 s4 s5:Value}{nF:Nat}{a:Int}{v:Vl}{mk:Int}{vO:Value}{obs:List ROb}{en:Int}(h:St w0 w gm gf cf gv cv AC cC AF cF i3 s4 s5 nF a v mk vO obs en)(hb:Below w.heap.size w w'):St w0 w' gm gf cf gv cv AC cC AF cF i3 s4 s5 nF a v mk vO obs en:=
 ⟨za h.hw hb,h.hB,h.sf,h.bm.mono hb,h.bf.mono hb,h.bv.mono hb,h.bo.mono hb⟩
structure RecS(gm gf gv cv:Nat)(a:Int)(vO:Value)(w:World):Prop where
 o:w.cell? ⟨gm,8,none⟩=some vO
 f0:w.cell? ⟨gf,0,none⟩=some (.int .i64 0)
 f1:w.cell? ⟨gf,1,none⟩=some (.int .i64 a)
 f2:w.cell? ⟨gf,2,none⟩=some (.int .i64 0)
 f3:w.cell? ⟨gf,3,none⟩=some (.int .i64 (-1))
 f4:w.cell? ⟨gf,4,none⟩=some (.slice (some ⟨gv,0,none⟩) 1 cv)
theorem RecS.of{w:World}{B gm gf cf gv cv:Nat}{t:TypeId}{c0 c1 c2 c3 c4 c5 c6 c7 c9:Value}{a:Int}{vO:Value}(hm:Box w gm [c0,c1,c2,c3,c4,c5,c6,c7,vO,c9] t)(hf:Own jb 8 B 167 w (.slice (some ⟨gf,0,none⟩) 1 cf) [⟨0,a,0,-1,some ⟨gv,0,none⟩,1,cv,(0,0,0)⟩]):RecS gm gf gv cv a vO w:=
 ⟨hm.cell 8 rfl,zK qn hf rfl,zK qn hf rfl,zK qn hf rfl,zK qn hf rfl,zK qn hf rfl⟩
end Go.Proofs.YtmhdambkchlilaaGreatDoor
