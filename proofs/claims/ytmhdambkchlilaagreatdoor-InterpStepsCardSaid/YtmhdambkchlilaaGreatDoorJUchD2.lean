/- Chapter 13: unusedZero by patterns (part 2). -/
import Derived.Test.YtmhdambkchlilaaGreatDoorJUa
namespace Go.Proofs.YtmhdambkchlilaaGreatDoor
open Go.RowKit
set_option linter.unusedVariables false
set_option maxRecDepth 100000
set_option maxHeartbeats 8000000
theorem adI(x:Ins)(AI:Option Addr)(cI:Nat)(w:World)(hf:yw w)(H:Pat x.op true true true false true false false false false) :
  Calls Tryz.prog 154 #[.agg #[.int .i64 x.op,.int .i64 x.dst,.int .i64 x.a,.int .i64 x.b,.int .i64 x.n,.string x.cls,.string x.name,.slice AI x.args.length cI,.int .i64 x.jmp,.int .i64 x.hnd]] w fun e w'=>e = .returned (.bool (zE x))∧Below w.heap.size w w':=by
 have hb0:Below w.heap.size w (w.alloc (.cells #[.int .i64 x.op,.int .i64 x.dst,.int .i64 x.a,.int .i64 x.b,.int .i64 x.n,.string x.cls,.string x.name,.slice AI x.args.length cI,.int .i64 x.jmp,.int .i64 x.hnd] 59)):=(by repeat(first|assumption|exact v9r|apply zc|apply zd|apply zg|apply ze|apply zi))
 have hf0:=hf.mono hb0;obtain⟨r,HR⟩:∃r,Hid (r=zE x):=⟨_,v9h rfl⟩
 rw[←HR.out];obtain⟨h1,h2,h3,h4,h5,h6,h7,h8,h9⟩:=H;have HB:Hid (r=(x.cls.toList.isEmpty&&(x.name.toList.isEmpty&&(((x.args.length:Int)==0)&&((x.jmp==0)&&true))))):=by show r=_;rw[HR.out];unfold zE;rw[h1,h2,h3,h4,h5,h6,h7,h8,h9];simp[Bool.and_assoc]
 rcases bspU (x.cls.toList.isEmpty) with z5|z5
 rotate_left
 rcases bspU (x.name.toList.isEmpty) with z6|z6
 rotate_left
 rcases bspU ((x.args.length:Int)==0) with z7|z7
 rotate_left
 rcases bspU (x.jmp==0) with z8|z8
 rotate_left
 all_goals
  go_enter Tryz.func154,Tryz.ntmps154
  go_upto_region 1 with fail
  generalize hW:World.alloc _ _=W1 at *
  have bx:Box W1 w.heap.size [.int .i64 x.op,.int .i64 x.dst,.int .i64 x.a,.int .i64 x.b,.int .i64 x.n,.string x.cls,.string x.name,.slice AI x.args.length cI,.int .i64 x.jmp,.int .i64 x.hnd] 59:=by rw[←hW];exact Box.new _ _ _
  clear hW;have p0:=bx.cell 0 rfl;have p1:=bx.cell 1 rfl;have p2:=bx.cell 2 rfl;have p3:=bx.cell 3 rfl;have p4:=bx.cell 4 rfl;have p5:=bx.cell 5 rfl;have p6:=bx.cell 6 rfl;have p7:=bx.cell 7 rfl;have p8:=bx.cell 8 rfl;have pl:=bx.lt;clear bx;refine zr ?_;simp only[List.append_eq,List.cons_append,List.nil_append]
  repeat(go_big_quiet_step ((go_at_call 107;first|with_reducible exact Calls.later_same (zj h1 _ (hf0.mono (zk.h _)))|with_reducible exact Calls.later_same (zj h2 _ (hf0.mono (zk.h _)))|with_reducible exact Calls.later_same (zj h3 _ (hf0.mono (zk.h _)))|with_reducible exact Calls.later_same (zj h4 _ (hf0.mono (zk.h _)))|with_reducible exact Calls.later_same (zj h5 _ (hf0.mono (zk.h _)))|with_reducible exact Calls.later_same (zj h6 _ (hf0.mono (zk.h _)))|with_reducible exact Calls.later_same (zj h7 _ (hf0.mono (zk.h _)))|with_reducible exact Calls.later_same (zj h8 _ (hf0.mono (zk.h _)))|with_reducible exact Calls.later_same (zj h9 _ (hf0.mono (zk.h _))))))
  refine wpQuiet_nil ?_;rintro _ ⟨y,rfl⟩
  go_wp2_with fail
  go_ret
  exact⟨by rw[HB.out];(try rw[z5]);(try rw[z6]);(try rw[z7]);(try rw[z8]);rfl,za hb0 y.h⟩
theorem adJ(x:Ins)(AI:Option Addr)(cI:Nat)(w:World)(hf:yw w)(H:Pat x.op true false false false false true false false false) :
  Calls Tryz.prog 154 #[.agg #[.int .i64 x.op,.int .i64 x.dst,.int .i64 x.a,.int .i64 x.b,.int .i64 x.n,.string x.cls,.string x.name,.slice AI x.args.length cI,.int .i64 x.jmp,.int .i64 x.hnd]] w fun e w'=>e = .returned (.bool (zE x))∧Below w.heap.size w w':=by
 have hb0:Below w.heap.size w (w.alloc (.cells #[.int .i64 x.op,.int .i64 x.dst,.int .i64 x.a,.int .i64 x.b,.int .i64 x.n,.string x.cls,.string x.name,.slice AI x.args.length cI,.int .i64 x.jmp,.int .i64 x.hnd] 59)):=(by repeat(first|assumption|exact v9r|apply zc|apply zd|apply zg|apply ze|apply zi))
 have hf0:=hf.mono hb0;obtain⟨r,HR⟩:∃r,Hid (r=zE x):=⟨_,v9h rfl⟩
 rw[←HR.out];obtain⟨h1,h2,h3,h4,h5,h6,h7,h8,h9⟩:=H;have HB:Hid (r=((x.a==0)&&((x.b==0)&&((x.n==0)&&(x.name.toList.isEmpty&&(((x.args.length:Int)==0)&&((x.jmp==0)&&true))))))):=by show r=_;rw[HR.out];unfold zE;rw[h1,h2,h3,h4,h5,h6,h7,h8,h9];simp[Bool.and_assoc]
 rcases bspU (x.a==0) with z2|z2
 rotate_left
 rcases bspU (x.b==0) with z3|z3
 rotate_left
 rcases bspU (x.n==0) with z4|z4
 rotate_left
 rcases bspU (x.name.toList.isEmpty) with z6|z6
 rotate_left
 rcases bspU ((x.args.length:Int)==0) with z7|z7
 rotate_left
 rcases bspU (x.jmp==0) with z8|z8
 rotate_left
 all_goals
  go_enter Tryz.func154,Tryz.ntmps154
  go_upto_region 1 with fail
  generalize hW:World.alloc _ _=W1 at *
  have bx:Box W1 w.heap.size [.int .i64 x.op,.int .i64 x.dst,.int .i64 x.a,.int .i64 x.b,.int .i64 x.n,.string x.cls,.string x.name,.slice AI x.args.length cI,.int .i64 x.jmp,.int .i64 x.hnd] 59:=by rw[←hW];exact Box.new _ _ _
  clear hW;have p0:=bx.cell 0 rfl;have p1:=bx.cell 1 rfl;have p2:=bx.cell 2 rfl;have p3:=bx.cell 3 rfl;have p4:=bx.cell 4 rfl;have p5:=bx.cell 5 rfl;have p6:=bx.cell 6 rfl;have p7:=bx.cell 7 rfl;have p8:=bx.cell 8 rfl;have pl:=bx.lt;clear bx;refine zr ?_;simp only[List.append_eq,List.cons_append,List.nil_append]
  repeat(go_big_quiet_step ((go_at_call 107;first|with_reducible exact Calls.later_same (zj h1 _ (hf0.mono (zk.h _)))|with_reducible exact Calls.later_same (zj h2 _ (hf0.mono (zk.h _)))|with_reducible exact Calls.later_same (zj h3 _ (hf0.mono (zk.h _)))|with_reducible exact Calls.later_same (zj h4 _ (hf0.mono (zk.h _)))|with_reducible exact Calls.later_same (zj h5 _ (hf0.mono (zk.h _)))|with_reducible exact Calls.later_same (zj h6 _ (hf0.mono (zk.h _)))|with_reducible exact Calls.later_same (zj h7 _ (hf0.mono (zk.h _)))|with_reducible exact Calls.later_same (zj h8 _ (hf0.mono (zk.h _)))|with_reducible exact Calls.later_same (zj h9 _ (hf0.mono (zk.h _))))))
  refine wpQuiet_nil ?_;rintro _ ⟨y,rfl⟩
  go_wp2_with fail
  go_ret
  exact⟨by rw[HB.out];(try rw[z2]);(try rw[z3]);(try rw[z4]);(try rw[z6]);(try rw[z7]);(try rw[z8]);rfl,za hb0 y.h⟩
theorem adK(x:Ins)(AI:Option Addr)(cI:Nat)(w:World)(hf:yw w)(H:Pat x.op true true false false false false true false false) :
  Calls Tryz.prog 154 #[.agg #[.int .i64 x.op,.int .i64 x.dst,.int .i64 x.a,.int .i64 x.b,.int .i64 x.n,.string x.cls,.string x.name,.slice AI x.args.length cI,.int .i64 x.jmp,.int .i64 x.hnd]] w fun e w'=>e = .returned (.bool (zE x))∧Below w.heap.size w w':=by
 have hb0:Below w.heap.size w (w.alloc (.cells #[.int .i64 x.op,.int .i64 x.dst,.int .i64 x.a,.int .i64 x.b,.int .i64 x.n,.string x.cls,.string x.name,.slice AI x.args.length cI,.int .i64 x.jmp,.int .i64 x.hnd] 59)):=(by repeat(first|assumption|exact v9r|apply zc|apply zd|apply zg|apply ze|apply zi))
 have hf0:=hf.mono hb0;obtain⟨r,HR⟩:∃r,Hid (r=zE x):=⟨_,v9h rfl⟩
 rw[←HR.out];obtain⟨h1,h2,h3,h4,h5,h6,h7,h8,h9⟩:=H;have HB:Hid (r=((x.b==0)&&((x.n==0)&&(x.cls.toList.isEmpty&&(((x.args.length:Int)==0)&&((x.jmp==0)&&true)))))):=by show r=_;rw[HR.out];unfold zE;rw[h1,h2,h3,h4,h5,h6,h7,h8,h9];simp[Bool.and_assoc]
 rcases bspU (x.b==0) with z3|z3
 rotate_left
 rcases bspU (x.n==0) with z4|z4
 rotate_left
 rcases bspU (x.cls.toList.isEmpty) with z5|z5
 rotate_left
 rcases bspU ((x.args.length:Int)==0) with z7|z7
 rotate_left
 rcases bspU (x.jmp==0) with z8|z8
 rotate_left
 all_goals
  go_enter Tryz.func154,Tryz.ntmps154
  go_upto_region 1 with fail
  generalize hW:World.alloc _ _=W1 at *
  have bx:Box W1 w.heap.size [.int .i64 x.op,.int .i64 x.dst,.int .i64 x.a,.int .i64 x.b,.int .i64 x.n,.string x.cls,.string x.name,.slice AI x.args.length cI,.int .i64 x.jmp,.int .i64 x.hnd] 59:=by rw[←hW];exact Box.new _ _ _
  clear hW;have p0:=bx.cell 0 rfl;have p1:=bx.cell 1 rfl;have p2:=bx.cell 2 rfl;have p3:=bx.cell 3 rfl;have p4:=bx.cell 4 rfl;have p5:=bx.cell 5 rfl;have p6:=bx.cell 6 rfl;have p7:=bx.cell 7 rfl;have p8:=bx.cell 8 rfl;have pl:=bx.lt;clear bx;refine zr ?_;simp only[List.append_eq,List.cons_append,List.nil_append]
  repeat(go_big_quiet_step ((go_at_call 107;first|with_reducible exact Calls.later_same (zj h1 _ (hf0.mono (zk.h _)))|with_reducible exact Calls.later_same (zj h2 _ (hf0.mono (zk.h _)))|with_reducible exact Calls.later_same (zj h3 _ (hf0.mono (zk.h _)))|with_reducible exact Calls.later_same (zj h4 _ (hf0.mono (zk.h _)))|with_reducible exact Calls.later_same (zj h5 _ (hf0.mono (zk.h _)))|with_reducible exact Calls.later_same (zj h6 _ (hf0.mono (zk.h _)))|with_reducible exact Calls.later_same (zj h7 _ (hf0.mono (zk.h _)))|with_reducible exact Calls.later_same (zj h8 _ (hf0.mono (zk.h _)))|with_reducible exact Calls.later_same (zj h9 _ (hf0.mono (zk.h _))))))
  refine wpQuiet_nil ?_;rintro _ ⟨y,rfl⟩
  go_wp2_with fail
  go_ret
  exact⟨by rw[HB.out];(try rw[z3]);(try rw[z4]);(try rw[z5]);(try rw[z7]);(try rw[z8]);rfl,za hb0 y.h⟩
theorem adL(x:Ins)(AI:Option Addr)(cI:Nat)(w:World)(hf:yw w)(H:Pat x.op false true true false false false true false false) :
  Calls Tryz.prog 154 #[.agg #[.int .i64 x.op,.int .i64 x.dst,.int .i64 x.a,.int .i64 x.b,.int .i64 x.n,.string x.cls,.string x.name,.slice AI x.args.length cI,.int .i64 x.jmp,.int .i64 x.hnd]] w fun e w'=>e = .returned (.bool (zE x))∧Below w.heap.size w w':=by
 have hb0:Below w.heap.size w (w.alloc (.cells #[.int .i64 x.op,.int .i64 x.dst,.int .i64 x.a,.int .i64 x.b,.int .i64 x.n,.string x.cls,.string x.name,.slice AI x.args.length cI,.int .i64 x.jmp,.int .i64 x.hnd] 59)):=(by repeat(first|assumption|exact v9r|apply zc|apply zd|apply zg|apply ze|apply zi))
 have hf0:=hf.mono hb0;obtain⟨r,HR⟩:∃r,Hid (r=zE x):=⟨_,v9h rfl⟩
 rw[←HR.out];obtain⟨h1,h2,h3,h4,h5,h6,h7,h8,h9⟩:=H;have HB:Hid (r=((x.dst==0)&&((x.n==0)&&(x.cls.toList.isEmpty&&(((x.args.length:Int)==0)&&((x.jmp==0)&&true)))))):=by show r=_;rw[HR.out];unfold zE;rw[h1,h2,h3,h4,h5,h6,h7,h8,h9];simp[Bool.and_assoc]
 rcases bspU (x.dst==0) with z1|z1
 rotate_left
 rcases bspU (x.n==0) with z4|z4
 rotate_left
 rcases bspU (x.cls.toList.isEmpty) with z5|z5
 rotate_left
 rcases bspU ((x.args.length:Int)==0) with z7|z7
 rotate_left
 rcases bspU (x.jmp==0) with z8|z8
 rotate_left
 all_goals
  go_enter Tryz.func154,Tryz.ntmps154
  go_upto_region 1 with fail
  generalize hW:World.alloc _ _=W1 at *
  have bx:Box W1 w.heap.size [.int .i64 x.op,.int .i64 x.dst,.int .i64 x.a,.int .i64 x.b,.int .i64 x.n,.string x.cls,.string x.name,.slice AI x.args.length cI,.int .i64 x.jmp,.int .i64 x.hnd] 59:=by rw[←hW];exact Box.new _ _ _
  clear hW;have p0:=bx.cell 0 rfl;have p1:=bx.cell 1 rfl;have p2:=bx.cell 2 rfl;have p3:=bx.cell 3 rfl;have p4:=bx.cell 4 rfl;have p5:=bx.cell 5 rfl;have p6:=bx.cell 6 rfl;have p7:=bx.cell 7 rfl;have p8:=bx.cell 8 rfl;have pl:=bx.lt;clear bx;refine zr ?_;simp only[List.append_eq,List.cons_append,List.nil_append]
  repeat(go_big_quiet_step ((go_at_call 107;first|with_reducible exact Calls.later_same (zj h1 _ (hf0.mono (zk.h _)))|with_reducible exact Calls.later_same (zj h2 _ (hf0.mono (zk.h _)))|with_reducible exact Calls.later_same (zj h3 _ (hf0.mono (zk.h _)))|with_reducible exact Calls.later_same (zj h4 _ (hf0.mono (zk.h _)))|with_reducible exact Calls.later_same (zj h5 _ (hf0.mono (zk.h _)))|with_reducible exact Calls.later_same (zj h6 _ (hf0.mono (zk.h _)))|with_reducible exact Calls.later_same (zj h7 _ (hf0.mono (zk.h _)))|with_reducible exact Calls.later_same (zj h8 _ (hf0.mono (zk.h _)))|with_reducible exact Calls.later_same (zj h9 _ (hf0.mono (zk.h _))))))
  refine wpQuiet_nil ?_;rintro _ ⟨y,rfl⟩
  go_wp2_with fail
  go_ret
  exact⟨by rw[HB.out];(try rw[z1]);(try rw[z4]);(try rw[z5]);(try rw[z7]);(try rw[z8]);rfl,za hb0 y.h⟩
theorem adM(x:Ins)(AI:Option Addr)(cI:Nat)(w:World)(hf:yw w)(H:Pat x.op true true false false false true true true false) :
  Calls Tryz.prog 154 #[.agg #[.int .i64 x.op,.int .i64 x.dst,.int .i64 x.a,.int .i64 x.b,.int .i64 x.n,.string x.cls,.string x.name,.slice AI x.args.length cI,.int .i64 x.jmp,.int .i64 x.hnd]] w fun e w'=>e = .returned (.bool (zE x))∧Below w.heap.size w w':=by
 have hb0:Below w.heap.size w (w.alloc (.cells #[.int .i64 x.op,.int .i64 x.dst,.int .i64 x.a,.int .i64 x.b,.int .i64 x.n,.string x.cls,.string x.name,.slice AI x.args.length cI,.int .i64 x.jmp,.int .i64 x.hnd] 59)):=(by repeat(first|assumption|exact v9r|apply zc|apply zd|apply zg|apply ze|apply zi))
 have hf0:=hf.mono hb0;obtain⟨r,HR⟩:∃r,Hid (r=zE x):=⟨_,v9h rfl⟩
 rw[←HR.out];obtain⟨h1,h2,h3,h4,h5,h6,h7,h8,h9⟩:=H;have HB:Hid (r=((x.b==0)&&((x.n==0)&&((x.jmp==0)&&true)))):=by show r=_;rw[HR.out];unfold zE;rw[h1,h2,h3,h4,h5,h6,h7,h8,h9];simp[Bool.and_assoc]
 rcases bspU (x.b==0) with z3|z3
 rotate_left
 rcases bspU (x.n==0) with z4|z4
 rotate_left
 rcases bspU (x.jmp==0) with z8|z8
 rotate_left
 all_goals
  go_enter Tryz.func154,Tryz.ntmps154
  go_upto_region 1 with fail
  generalize hW:World.alloc _ _=W1 at *
  have bx:Box W1 w.heap.size [.int .i64 x.op,.int .i64 x.dst,.int .i64 x.a,.int .i64 x.b,.int .i64 x.n,.string x.cls,.string x.name,.slice AI x.args.length cI,.int .i64 x.jmp,.int .i64 x.hnd] 59:=by rw[←hW];exact Box.new _ _ _
  clear hW;have p0:=bx.cell 0 rfl;have p1:=bx.cell 1 rfl;have p2:=bx.cell 2 rfl;have p3:=bx.cell 3 rfl;have p4:=bx.cell 4 rfl;have p5:=bx.cell 5 rfl;have p6:=bx.cell 6 rfl;have p7:=bx.cell 7 rfl;have p8:=bx.cell 8 rfl;have pl:=bx.lt;clear bx;refine zr ?_;simp only[List.append_eq,List.cons_append,List.nil_append]
  repeat(go_big_quiet_step ((go_at_call 107;first|with_reducible exact Calls.later_same (zj h1 _ (hf0.mono (zk.h _)))|with_reducible exact Calls.later_same (zj h2 _ (hf0.mono (zk.h _)))|with_reducible exact Calls.later_same (zj h3 _ (hf0.mono (zk.h _)))|with_reducible exact Calls.later_same (zj h4 _ (hf0.mono (zk.h _)))|with_reducible exact Calls.later_same (zj h5 _ (hf0.mono (zk.h _)))|with_reducible exact Calls.later_same (zj h6 _ (hf0.mono (zk.h _)))|with_reducible exact Calls.later_same (zj h7 _ (hf0.mono (zk.h _)))|with_reducible exact Calls.later_same (zj h8 _ (hf0.mono (zk.h _)))|with_reducible exact Calls.later_same (zj h9 _ (hf0.mono (zk.h _))))))
  refine wpQuiet_nil ?_;rintro _ ⟨y,rfl⟩
  go_wp2_with fail
  go_ret
  exact⟨by rw[HB.out];(try rw[z3]);(try rw[z4]);(try rw[z8]);rfl,za hb0 y.h⟩
end Go.Proofs.YtmhdambkchlilaaGreatDoor
