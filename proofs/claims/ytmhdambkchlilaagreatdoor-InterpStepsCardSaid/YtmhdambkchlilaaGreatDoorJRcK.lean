/- Chapter 12: the answer's ints, by operation. -/
import Derived.Test.YtmhdambkchlilaaGreatDoorJRi
namespace Go.Proofs.YtmhdambkchlilaaGreatDoor
open Go.RowKit
set_option linter.unusedVariables false
set_option maxRecDepth 100000
set_option maxHeartbeats 2000000
theorem agG(cs:List Cls)(f:Fun)(x:Ins)(AH AV AC AI:Option Addr)(cH cV cC cI:Nat)(w:World)(H:Hid (TyH w cs f x AH AV AI cH))(hn:Hid (NoKw cs))(hop:x.op=5) :
  Calls Tryz.prog 310 #[.agg #[.slice AH cs.length cH],.agg #[.string f.cls,.string f.name,.bool f.static,.int .i64 f.nparams,.slice AV f.vars.length cV,.string f.result,.slice AC f.code.length cC],.agg #[.int .i64 x.op,.int .i64 x.dst,.int .i64 x.a,.int .i64 x.b,.int .i64 x.n,.string x.cls,.string x.name,.slice AI x.args.length cI,.int .i64 x.jmp,.int .i64 x.hnd]] w fun e w'=>e = .returned (.bool (zu (tyOf f.vars x.dst)))∧Below w.heap.size w w':=by
 obtain⟨r,HR⟩:∃r,Hid (r=(zu (tyOf f.vars x.dst))):=⟨_,v9h rfl⟩
 rw[←HR.out];have e1:(x.op==1)=false:=by rw[hop];rfl
 have e5:(x.op==5)=true:=by rw[hop];rfl
 have e2:(x.op==2)=false:=by rw[hop];rfl
 have e3:(x.op==3)=false:=by rw[hop];rfl
 have e16:(x.op==16)=false:=by rw[hop];rfl
 have e11:(x.op==11)=false:=by rw[hop];rfl
 have e14:(x.op==14)=false:=by rw[hop];rfl
 have e4:(x.op==4)=false:=by rw[hop];rfl
 have e13:(x.op==13)=false:=by rw[hop];rfl
 have K1:Hid (∀W,Calls Tryz.prog 106 #[.int .i64 x.op,.int .u8 100] W fun e w'=>e = .returned (.bool true)∧Below W.heap.size W w'):=fun W=>zA x.op 100 _ (by rw[hop];rfl) W
 have K2:Hid (∀W,Calls Tryz.prog 106 #[.int .i64 x.op,.int .u8 97] W fun e w'=>e = .returned (.bool false)∧Below W.heap.size W w'):=fun W=>zA x.op 97 _ (by rw[hop];rfl) W
 have K3:Hid (∀W,Calls Tryz.prog 106 #[.int .i64 x.op,.int .u8 98] W fun e w'=>e = .returned (.bool false)∧Below W.heap.size W w'):=fun W=>zA x.op 98 _ (by rw[hop];rfl) W
 have hvd:=H.out.hg.dst (by rw[hop];rfl) (by rw[hop];rfl);obtain⟨bV,oV,rfl⟩:=avC H.out.hv hvd;obtain⟨kd,hkd,hkdl,hkdI,Td⟩:=tyC H.out.hv hvd;replace hkd:=v9h hkd;replace Td:=v9h Td;have hkd0:(0:Int)≤kd:=by omega
 generalize tyOf f.vars x.dst=td at *
 clear hop
 go_enter Tryz.func310,Tryz.ntmps310
 go_upto_region 1 with fail
 generalize hW:World.alloc _ _=W1 at *
 have hb1:Below w.heap.size w W1:=by rw[←hW];exact(by repeat(first|assumption|exact v9r|apply zc|apply zd|apply zg|apply ze|apply zi))
 have bh:Box W1 w.heap.size [.slice AH cs.length cH] 29:=by rw[←hW];exact((Box.new _ _ _).alloc _).alloc _
 have bf:Box W1 (w.heap.size+1) [.string f.cls,.string f.name,.bool f.static,.int .i64 f.nparams,.slice (some ⟨bV,oV,none⟩) f.vars.length cV,.string f.result,.slice AC f.code.length cC] 42:=by rw[←hW];exact Box.alloc (w:=(w.alloc _).alloc _) (Box.at (w:=w.alloc _) (by simp)) _
 have bx:Box W1 (w.heap.size+2) [.int .i64 x.op,.int .i64 x.dst,.int .i64 x.a,.int .i64 x.b,.int .i64 x.n,.string x.cls,.string x.name,.slice AI x.args.length cI,.int .i64 x.jmp,.int .i64 x.hnd] 59:=by rw[←hW];refine Box.at (w:=(w.alloc _).alloc _) ?_;simp
 clear hW;have h0:=bh.cell 0 rfl;have hlh:=bh.lt;have f4:=bf.cell 4 rfl;have f5:=bf.cell 5 rfl;have fl:=bf.lt;have x0:=bx.cell 0 rfl;have x1:=bx.cell 1 rfl;have x2:=bx.cell 2 rfl;have x3:=bx.cell 3 rfl;have x4:=bx.cell 4 rfl;have xl:=bx.lt;rw[hkd.out] at x1;obtain⟨eVd,cd⟩:=Td.out _ hb1
 go_wp2_with fail
 refine(K1.out _).mono ?_;rintro e w2 ⟨rfl,hq2⟩;have hb2:=za hb1 hq2;have bh2:=bh.mono hq2;have bf2:=bf.mono hq2;have bx2:=bx.mono hq2;clear bh bf bx hq2;clear h0 hlh f4 f5 fl x0 x1 x2 x3 x4 xl eVd cd;have h0:=bh2.cell 0 rfl;have hlh:=bh2.lt;have f4:=bf2.cell 4 rfl;have f5:=bf2.cell 5 rfl;have fl:=bf2.lt;have x0:=bx2.cell 0 rfl;have x1:=bx2.cell 1 rfl;have x2:=bx2.cell 2 rfl;have x3:=bx2.cell 3 rfl;have x4:=bx2.cell 4 rfl;have xl:=bx2.lt;rw[hkd.out] at x1;obtain⟨eVd,cd⟩:=Td.out _ hb2
 go_wp2_with fail
 refine(K2.out _).mono ?_;rintro e w3 ⟨rfl,hq3⟩;have hb3:=za hb2 hq3;have bh3:=bh2.mono hq3;have bf3:=bf2.mono hq3;have bx3:=bx2.mono hq3;clear bh2 bf2 bx2 hq3;clear h0 hlh f4 f5 fl x0 x1 x2 x3 x4 xl eVd cd;have h0:=bh3.cell 0 rfl;have hlh:=bh3.lt;have f4:=bf3.cell 4 rfl;have f5:=bf3.cell 5 rfl;have fl:=bf3.lt;have x0:=bx3.cell 0 rfl;have x1:=bx3.cell 1 rfl;have x2:=bx3.cell 2 rfl;have x3:=bx3.cell 3 rfl;have x4:=bx3.cell 4 rfl;have xl:=bx3.lt;rw[hkd.out] at x1;obtain⟨eVd,cd⟩:=Td.out _ hb3
 go_wp2_with fail
 refine(K3.out _).mono ?_;rintro e w4 ⟨rfl,hq4⟩;have hb4:=za hb3 hq4;have bh4:=bh3.mono hq4;have bf4:=bf3.mono hq4;have bx4:=bx3.mono hq4;clear bh3 bf3 bx3 hq4;clear h0 hlh f4 f5 fl x0 x1 x2 x3 x4 xl eVd cd;have h0:=bh4.cell 0 rfl;have hlh:=bh4.lt;have f4:=bf4.cell 4 rfl;have f5:=bf4.cell 5 rfl;have fl:=bf4.lt;have x0:=bx4.cell 0 rfl;have x1:=bx4.cell 1 rfl;have x2:=bx4.cell 2 rfl;have x3:=bx4.cell 3 rfl;have x4:=bx4.cell 4 rfl;have xl:=bx4.lt;rw[hkd.out] at x1;obtain⟨eVd,cd⟩:=Td.out _ hb4
 rcases bspU (td.toList==[105,110,116]) with qd|qd
 ·have qd':(td.toList != [105,110,116]) = !(td.toList==[105,110,116]):=rfl
  rw[qd] at qd';have HB:Hid (r=false):=by show r=_;rw[HR.out];simp[zu,wInt,qd]
  go_wp2_with fail
  go_ret
  exact⟨by rw[HB.out];rfl,hb4⟩
 ·have qd':(td.toList != [105,110,116]) = !(td.toList==[105,110,116]):=rfl
  rw[qd] at qd';have HB:Hid (r=true):=by show r=_;rw[HR.out];simp[zu,wInt,qd]
  go_wp2_with fail
  go_ret
  exact⟨by rw[HB.out];rfl,hb4⟩
theorem aeN(cs:List Cls)(f:Fun)(x:Ins)(AH AV AC AI:Option Addr)(cH cV cC cI:Nat)(w:World)(H:Hid (TyH w cs f x AH AV AI cH))(hn:Hid (NoKw cs))(hop:x.op=13)(hz:(x.a == -1)=true) :
  Calls Tryz.prog 310 #[.agg #[.slice AH cs.length cH],.agg #[.string f.cls,.string f.name,.bool f.static,.int .i64 f.nparams,.slice AV f.vars.length cV,.string f.result,.slice AC f.code.length cC],.agg #[.int .i64 x.op,.int .i64 x.dst,.int .i64 x.a,.int .i64 x.b,.int .i64 x.n,.string x.cls,.string x.name,.slice AI x.args.length cI,.int .i64 x.jmp,.int .i64 x.hnd]] w fun e w'=>e = .returned (.bool (true))∧Below w.heap.size w w':=by
 obtain⟨r,HR⟩:∃r,Hid (r=(true)):=⟨_,v9h rfl⟩
 rw[←HR.out];have e1:(x.op==1)=false:=by rw[hop];rfl
 have e5:(x.op==5)=false:=by rw[hop];rfl
 have e2:(x.op==2)=false:=by rw[hop];rfl
 have e3:(x.op==3)=false:=by rw[hop];rfl
 have e16:(x.op==16)=false:=by rw[hop];rfl
 have e11:(x.op==11)=false:=by rw[hop];rfl
 have e14:(x.op==14)=false:=by rw[hop];rfl
 have e4:(x.op==4)=false:=by rw[hop];rfl
 have e13:(x.op==13)=true:=by rw[hop];rfl
 have K1:Hid (∀W,Calls Tryz.prog 106 #[.int .i64 x.op,.int .u8 100] W fun e w'=>e = .returned (.bool false)∧Below W.heap.size W w'):=fun W=>zA x.op 100 _ (by rw[hop];rfl) W
 have K2:Hid (∀W,Calls Tryz.prog 106 #[.int .i64 x.op,.int .u8 97] W fun e w'=>e = .returned (.bool true)∧Below W.heap.size W w'):=fun W=>zA x.op 97 _ (by rw[hop];rfl) W
 have K3:Hid (∀W,Calls Tryz.prog 106 #[.int .i64 x.op,.int .u8 98] W fun e w'=>e = .returned (.bool false)∧Below W.heap.size W w'):=fun W=>zA x.op 98 _ (by rw[hop];rfl) W
 have hzz:x.a = -1:=by simpa using hz
 have HZ:=v9h hzz;clear hz;clear hzz;clear hop
 go_enter Tryz.func310,Tryz.ntmps310
 go_upto_region 1 with fail
 generalize hW:World.alloc _ _=W1 at *
 have hb1:Below w.heap.size w W1:=by rw[←hW];exact(by repeat(first|assumption|exact v9r|apply zc|apply zd|apply zg|apply ze|apply zi))
 have bh:Box W1 w.heap.size [.slice AH cs.length cH] 29:=by rw[←hW];exact((Box.new _ _ _).alloc _).alloc _
 have bf:Box W1 (w.heap.size+1) [.string f.cls,.string f.name,.bool f.static,.int .i64 f.nparams,.slice AV f.vars.length cV,.string f.result,.slice AC f.code.length cC] 42:=by rw[←hW];exact Box.alloc (w:=(w.alloc _).alloc _) (Box.at (w:=w.alloc _) (by simp)) _
 have bx:Box W1 (w.heap.size+2) [.int .i64 x.op,.int .i64 x.dst,.int .i64 x.a,.int .i64 x.b,.int .i64 x.n,.string x.cls,.string x.name,.slice AI x.args.length cI,.int .i64 x.jmp,.int .i64 x.hnd] 59:=by rw[←hW];refine Box.at (w:=(w.alloc _).alloc _) ?_;simp
 clear hW;have h0:=bh.cell 0 rfl;have hlh:=bh.lt;have f4:=bf.cell 4 rfl;have f5:=bf.cell 5 rfl;have fl:=bf.lt;have x0:=bx.cell 0 rfl;have x1:=bx.cell 1 rfl;have x2:=bx.cell 2 rfl;have x3:=bx.cell 3 rfl;have x4:=bx.cell 4 rfl;have xl:=bx.lt;rw[HZ.out] at x2
 go_wp2_with fail
 refine(K1.out _).mono ?_;rintro e w2 ⟨rfl,hq2⟩;have hb2:=za hb1 hq2;have bh2:=bh.mono hq2;have bf2:=bf.mono hq2;have bx2:=bx.mono hq2;clear bh bf bx hq2;clear h0 hlh f4 f5 fl x0 x1 x2 x3 x4 xl;have h0:=bh2.cell 0 rfl;have hlh:=bh2.lt;have f4:=bf2.cell 4 rfl;have f5:=bf2.cell 5 rfl;have fl:=bf2.lt;have x0:=bx2.cell 0 rfl;have x1:=bx2.cell 1 rfl;have x2:=bx2.cell 2 rfl;have x3:=bx2.cell 3 rfl;have x4:=bx2.cell 4 rfl;have xl:=bx2.lt;rw[HZ.out] at x2
 go_wp2_with fail
 refine(K2.out _).mono ?_;rintro e w3 ⟨rfl,hq3⟩;have hb3:=za hb2 hq3;have bh3:=bh2.mono hq3;have bf3:=bf2.mono hq3;have bx3:=bx2.mono hq3;clear bh2 bf2 bx2 hq3;clear h0 hlh f4 f5 fl x0 x1 x2 x3 x4 xl;have h0:=bh3.cell 0 rfl;have hlh:=bh3.lt;have f4:=bf3.cell 4 rfl;have f5:=bf3.cell 5 rfl;have fl:=bf3.lt;have x0:=bx3.cell 0 rfl;have x1:=bx3.cell 1 rfl;have x2:=bx3.cell 2 rfl;have x3:=bx3.cell 3 rfl;have x4:=bx3.cell 4 rfl;have xl:=bx3.lt;rw[HZ.out] at x2
 go_wp2_with fail
 refine(K3.out _).mono ?_;rintro e w4 ⟨rfl,hq4⟩;have hb4:=za hb3 hq4;have bh4:=bh3.mono hq4;have bf4:=bf3.mono hq4;have bx4:=bx3.mono hq4;clear bh3 bf3 bx3 hq4;clear h0 hlh f4 f5 fl x0 x1 x2 x3 x4 xl;have h0:=bh4.cell 0 rfl;have hlh:=bh4.lt;have f4:=bf4.cell 4 rfl;have f5:=bf4.cell 5 rfl;have fl:=bf4.lt;have x0:=bx4.cell 0 rfl;have x1:=bx4.cell 1 rfl;have x2:=bx4.cell 2 rfl;have x3:=bx4.cell 3 rfl;have x4:=bx4.cell 4 rfl;have xl:=bx4.lt;rw[HZ.out] at x2
 go_wp2_with fail
 go_ret
 exact⟨by rw[HR.out];rfl,hb4⟩
theorem aeO(cs:List Cls)(f:Fun)(x:Ins)(AH AV AC AI:Option Addr)(cH cV cC cI:Nat)(w:World)(H:Hid (TyH w cs f x AH AV AI cH))(hn:Hid (NoKw cs))(hop:x.op=13)(hz:(x.a == -1)=false) :
  Calls Tryz.prog 310 #[.agg #[.slice AH cs.length cH],.agg #[.string f.cls,.string f.name,.bool f.static,.int .i64 f.nparams,.slice AV f.vars.length cV,.string f.result,.slice AC f.code.length cC],.agg #[.int .i64 x.op,.int .i64 x.dst,.int .i64 x.a,.int .i64 x.b,.int .i64 x.n,.string x.cls,.string x.name,.slice AI x.args.length cI,.int .i64 x.jmp,.int .i64 x.hnd]] w fun e w'=>e = .returned (.bool (zB cs (tyOf f.vars x.a) f.result))∧Below w.heap.size w w':=by
 obtain⟨r,HR⟩:∃r,Hid (r=(zB cs (tyOf f.vars x.a) f.result)):=⟨_,v9h rfl⟩
 rw[←HR.out];have e1:(x.op==1)=false:=by rw[hop];rfl
 have e5:(x.op==5)=false:=by rw[hop];rfl
 have e2:(x.op==2)=false:=by rw[hop];rfl
 have e3:(x.op==3)=false:=by rw[hop];rfl
 have e16:(x.op==16)=false:=by rw[hop];rfl
 have e11:(x.op==11)=false:=by rw[hop];rfl
 have e14:(x.op==14)=false:=by rw[hop];rfl
 have e4:(x.op==4)=false:=by rw[hop];rfl
 have e13:(x.op==13)=true:=by rw[hop];rfl
 have K1:Hid (∀W,Calls Tryz.prog 106 #[.int .i64 x.op,.int .u8 100] W fun e w'=>e = .returned (.bool false)∧Below W.heap.size W w'):=fun W=>zA x.op 100 _ (by rw[hop];rfl) W
 have K2:Hid (∀W,Calls Tryz.prog 106 #[.int .i64 x.op,.int .u8 97] W fun e w'=>e = .returned (.bool true)∧Below W.heap.size W w'):=fun W=>zA x.op 97 _ (by rw[hop];rfl) W
 have K3:Hid (∀W,Calls Tryz.prog 106 #[.int .i64 x.op,.int .u8 98] W fun e w'=>e = .returned (.bool false)∧Below W.heap.size W w'):=fun W=>zA x.op 98 _ (by rw[hop];rfl) W
 have hva:varB f.vars.length x.a=true:=by
  rcases H.out.hg.a (by rw[hop];rfl) with h|⟨_,h⟩
  ·exact h
  ·rw[h] at hz;cases hz
 obtain⟨bV,oV,rfl⟩:=avC H.out.hv hva;obtain⟨ka,hka,hkal,hkaI,Ta⟩:=tyC H.out.hv hva;replace hka:=v9h hka;replace Ta:=v9h Ta;have hka0:(0:Int)≤ka:=by omega
 have HFI:=v9h (fun W (h:Below w.heap.size w W)=>aeJ AH cH cs (tyOf f.vars x.a) f.result W H.out.hl (H.out.hs.mono h) hn);clear hz;generalize zB cs (tyOf f.vars x.a) f.result=fb at *
 generalize tyOf f.vars x.a=ta at *
 clear hop
 go_enter Tryz.func310,Tryz.ntmps310
 go_upto_region 1 with fail
 generalize hW:World.alloc _ _=W1 at *
 have hb1:Below w.heap.size w W1:=by rw[←hW];exact(by repeat(first|assumption|exact v9r|apply zc|apply zd|apply zg|apply ze|apply zi))
 have bh:Box W1 w.heap.size [.slice AH cs.length cH] 29:=by rw[←hW];exact((Box.new _ _ _).alloc _).alloc _
 have bf:Box W1 (w.heap.size+1) [.string f.cls,.string f.name,.bool f.static,.int .i64 f.nparams,.slice (some ⟨bV,oV,none⟩) f.vars.length cV,.string f.result,.slice AC f.code.length cC] 42:=by rw[←hW];exact Box.alloc (w:=(w.alloc _).alloc _) (Box.at (w:=w.alloc _) (by simp)) _
 have bx:Box W1 (w.heap.size+2) [.int .i64 x.op,.int .i64 x.dst,.int .i64 x.a,.int .i64 x.b,.int .i64 x.n,.string x.cls,.string x.name,.slice AI x.args.length cI,.int .i64 x.jmp,.int .i64 x.hnd] 59:=by rw[←hW];refine Box.at (w:=(w.alloc _).alloc _) ?_;simp
 clear hW;have h0:=bh.cell 0 rfl;have hlh:=bh.lt;have f4:=bf.cell 4 rfl;have f5:=bf.cell 5 rfl;have fl:=bf.lt;have x0:=bx.cell 0 rfl;have x1:=bx.cell 1 rfl;have x2:=bx.cell 2 rfl;have x3:=bx.cell 3 rfl;have x4:=bx.cell 4 rfl;have xl:=bx.lt;rw[hka.out] at x2;obtain⟨eVa,ca⟩:=Ta.out _ hb1
 go_wp2_with fail
 refine(K1.out _).mono ?_;rintro e w2 ⟨rfl,hq2⟩;have hb2:=za hb1 hq2;have bh2:=bh.mono hq2;have bf2:=bf.mono hq2;have bx2:=bx.mono hq2;clear bh bf bx hq2;clear h0 hlh f4 f5 fl x0 x1 x2 x3 x4 xl eVa ca;have h0:=bh2.cell 0 rfl;have hlh:=bh2.lt;have f4:=bf2.cell 4 rfl;have f5:=bf2.cell 5 rfl;have fl:=bf2.lt;have x0:=bx2.cell 0 rfl;have x1:=bx2.cell 1 rfl;have x2:=bx2.cell 2 rfl;have x3:=bx2.cell 3 rfl;have x4:=bx2.cell 4 rfl;have xl:=bx2.lt;rw[hka.out] at x2;obtain⟨eVa,ca⟩:=Ta.out _ hb2
 go_wp2_with fail
 refine(K2.out _).mono ?_;rintro e w3 ⟨rfl,hq3⟩;have hb3:=za hb2 hq3;have bh3:=bh2.mono hq3;have bf3:=bf2.mono hq3;have bx3:=bx2.mono hq3;clear bh2 bf2 bx2 hq3;clear h0 hlh f4 f5 fl x0 x1 x2 x3 x4 xl eVa ca;have h0:=bh3.cell 0 rfl;have hlh:=bh3.lt;have f4:=bf3.cell 4 rfl;have f5:=bf3.cell 5 rfl;have fl:=bf3.lt;have x0:=bx3.cell 0 rfl;have x1:=bx3.cell 1 rfl;have x2:=bx3.cell 2 rfl;have x3:=bx3.cell 3 rfl;have x4:=bx3.cell 4 rfl;have xl:=bx3.lt;rw[hka.out] at x2;obtain⟨eVa,ca⟩:=Ta.out _ hb3
 go_wp2_with fail
 refine(K3.out _).mono ?_;rintro e w4 ⟨rfl,hq4⟩;have hb4:=za hb3 hq4;have bh4:=bh3.mono hq4;have bf4:=bf3.mono hq4;have bx4:=bx3.mono hq4;clear bh3 bf3 bx3 hq4;clear h0 hlh f4 f5 fl x0 x1 x2 x3 x4 xl eVa ca;have h0:=bh4.cell 0 rfl;have hlh:=bh4.lt;have f4:=bf4.cell 4 rfl;have f5:=bf4.cell 5 rfl;have fl:=bf4.lt;have x0:=bx4.cell 0 rfl;have x1:=bx4.cell 1 rfl;have x2:=bx4.cell 2 rfl;have x3:=bx4.cell 3 rfl;have x4:=bx4.cell 4 rfl;have xl:=bx4.lt;rw[hka.out] at x2;obtain⟨eVa,ca⟩:=Ta.out _ hb4
 go_wp2_with fail
 refine(HFI.out _ hb4).mono ?_;rintro e w9 ⟨rfl,hq9⟩
 go_wp2_with fail
 go_ret
 exact⟨by rw[HR.out];rfl,za hb4 hq9⟩
end Go.Proofs.YtmhdambkchlilaaGreatDoor
