/- Chapter 12: the answer's unused by patterns (part 1). Chapter 12: the answer's unused by patterns (part 2). Chapter 12: the answer's unused by patterns (part 3). Chapter 12: the answer's unused: what it returns. -/
import Derived.Test.YtmhdambkchlilaaGreatDoorJRa
import Derived.Test.YtmhdambkchlilaaGreatDoorJUa
namespace Go.Proofs.YtmhdambkchlilaaGreatDoor
open Go.RowKit
set_option linter.unusedVariables false
set_option maxRecDepth 100000
set_option maxHeartbeats 8000000
theorem aeP(x:Ins)(AI:Option Addr)(cI:Nat)(w:World)(H:Pat x.op true false false false false false false false false) :
  Calls Tryz.prog 268 #[.agg #[.int .i64 x.op,.int .i64 x.dst,.int .i64 x.a,.int .i64 x.b,.int .i64 x.n,.string x.cls,.string x.name,.slice AI x.args.length cI,.int .i64 x.jmp,.int .i64 x.hnd]] w fun e w'=>e = .returned (.bool (zE x))∧Below w.heap.size w w':=by
 have hb0:Below w.heap.size w (w.alloc (.cells #[.int .i64 x.op,.int .i64 x.dst,.int .i64 x.a,.int .i64 x.b,.int .i64 x.n,.string x.cls,.string x.name,.slice AI x.args.length cI,.int .i64 x.jmp,.int .i64 x.hnd] 59)):=(by repeat(first|assumption|exact v9r|apply zc|apply zd|apply zg|apply ze|apply zi))
 obtain⟨r,HR⟩:∃r,Hid (r=zE x):=⟨_,v9h rfl⟩
 rw[←HR.out];obtain⟨q1,q2,q3,q5,q6,q8,q4,q7⟩:=zX x.op;obtain⟨h1,h2,h3,h4,h5,h6,h7,h8,h9⟩:=H;have HB:Hid (r=((x.a==0)&&((x.b==0)&&((x.n==0)&&(x.cls.toList.isEmpty&&(x.name.toList.isEmpty&&(((x.args.length:Int)==0)&&((x.jmp==0)&&true)))))))):=by show r=_;rw[HR.out];unfold zE;rw[h1,h2,h3,h4,h5,h6,h7,h8,h9];simp[Bool.and_assoc]
 have k1:∀W,Calls Tryz.prog 106 #[.int .i64 x.op,.int .u8 100] W fun e w'=>e = .returned (.bool true)∧Below W.heap.size W w':=fun W=>zA x.op 100 _ (by rw[q1,h1];try rfl) W
 have k2:∀W,Calls Tryz.prog 106 #[.int .i64 x.op,.int .u8 97] W fun e w'=>e = .returned (.bool false)∧Below W.heap.size W w':=fun W=>zA x.op 97 _ (by rw[q2,h2];try rfl) W
 have k3:∀W,Calls Tryz.prog 106 #[.int .i64 x.op,.int .u8 98] W fun e w'=>e = .returned (.bool false)∧Below W.heap.size W w':=fun W=>zA x.op 98 _ (by rw[q3,h3];try rfl) W
 have k4:∀W,Calls Tryz.prog 106 #[.int .i64 x.op,.int .u8 110] W fun e w'=>e = .returned (.bool false)∧Below W.heap.size W w':=fun W=>zA x.op 110 _ (by rw[q4,h4,h5];try rfl) W
 have k5:∀W,Calls Tryz.prog 106 #[.int .i64 x.op,.int .u8 99] W fun e w'=>e = .returned (.bool false)∧Below W.heap.size W w':=fun W=>zA x.op 99 _ (by rw[q5,h6];try rfl) W
 have k6:∀W,Calls Tryz.prog 106 #[.int .i64 x.op,.int .u8 109] W fun e w'=>e = .returned (.bool false)∧Below W.heap.size W w':=fun W=>zA x.op 109 _ (by rw[q6,h7];try rfl) W
 have k7:∀W,Calls Tryz.prog 106 #[.int .i64 x.op,.int .u8 108] W fun e w'=>e = .returned (.bool false)∧Below W.heap.size W w':=fun W=>zA x.op 108 _ (by rw[q7,h8];try rfl) W
 have k8:∀W,Calls Tryz.prog 106 #[.int .i64 x.op,.int .u8 103] W fun e w'=>e = .returned (.bool false)∧Below W.heap.size W w':=fun W=>zA x.op 103 _ (by rw[q8,h9];try rfl) W
 clear q1 q2 q3 q4 q5 q6 q7 q8 h1 h2 h3 h4 h5 h6 h7 h8 h9
 rcases bspU (x.a==0) with z2|z2
 rotate_left
 rcases bspU (x.b==0) with z3|z3
 rotate_left
 rcases bspU (x.n==0) with z4|z4
 rotate_left
 rcases bspU (x.cls.toList.isEmpty) with z5|z5
 rotate_left
 rcases bspU (x.name.toList.isEmpty) with z6|z6
 rotate_left
 rcases bspU ((x.args.length:Int)==0) with z7|z7
 rotate_left
 rcases bspU (x.jmp==0) with z8|z8
 rotate_left
 all_goals
  go_enter Tryz.func268,Tryz.ntmps268
  go_upto_region 1 with fail
  generalize hW:World.alloc _ _=W1 at *
  have bx:Box W1 w.heap.size [.int .i64 x.op,.int .i64 x.dst,.int .i64 x.a,.int .i64 x.b,.int .i64 x.n,.string x.cls,.string x.name,.slice AI x.args.length cI,.int .i64 x.jmp,.int .i64 x.hnd] 59:=by rw[←hW];exact Box.new _ _ _
  clear hW;have p0:=bx.cell 0 rfl;have p1:=bx.cell 1 rfl;have p2:=bx.cell 2 rfl;have p3:=bx.cell 3 rfl;have p4:=bx.cell 4 rfl;have p5:=bx.cell 5 rfl;have p6:=bx.cell 6 rfl;have p7:=bx.cell 7 rfl;have p8:=bx.cell 8 rfl;have pl:=bx.lt;clear bx
  go_upto_region 2 with fail
  refine zr ?_
  try simp only[List.append_eq,List.cons_append,List.nil_append]
  repeat(go_big_quiet_step ((go_at_call 106;first|with_reducible exact Calls.later (k1 _)|with_reducible exact Calls.later (k2 _)|with_reducible exact Calls.later (k3 _)|with_reducible exact Calls.later (k4 _)|with_reducible exact Calls.later (k5 _)|with_reducible exact Calls.later (k6 _)|with_reducible exact Calls.later (k7 _)|with_reducible exact Calls.later (k8 _))))
  refine wpQuiet_nil ?_;rintro _ ⟨y,rfl⟩
  go_wp2_with fail
  go_ret
  exact⟨by rw[HB.out];(try rw[z2]);(try rw[z3]);(try rw[z4]);(try rw[z5]);(try rw[z6]);(try rw[z7]);(try rw[z8]);rfl,za hb0 y.h⟩
theorem ad5(x:Ins)(AI:Option Addr)(cI:Nat)(w:World)(H:Pat x.op false true false false false false false false false) :
  Calls Tryz.prog 268 #[.agg #[.int .i64 x.op,.int .i64 x.dst,.int .i64 x.a,.int .i64 x.b,.int .i64 x.n,.string x.cls,.string x.name,.slice AI x.args.length cI,.int .i64 x.jmp,.int .i64 x.hnd]] w fun e w'=>e = .returned (.bool (zE x))∧Below w.heap.size w w':=by
 have hb0:Below w.heap.size w (w.alloc (.cells #[.int .i64 x.op,.int .i64 x.dst,.int .i64 x.a,.int .i64 x.b,.int .i64 x.n,.string x.cls,.string x.name,.slice AI x.args.length cI,.int .i64 x.jmp,.int .i64 x.hnd] 59)):=(by repeat(first|assumption|exact v9r|apply zc|apply zd|apply zg|apply ze|apply zi))
 obtain⟨r,HR⟩:∃r,Hid (r=zE x):=⟨_,v9h rfl⟩
 rw[←HR.out];obtain⟨q1,q2,q3,q5,q6,q8,q4,q7⟩:=zX x.op;obtain⟨h1,h2,h3,h4,h5,h6,h7,h8,h9⟩:=H;have HB:Hid (r=((x.dst==0)&&((x.b==0)&&((x.n==0)&&(x.cls.toList.isEmpty&&(x.name.toList.isEmpty&&(((x.args.length:Int)==0)&&((x.jmp==0)&&true)))))))):=by show r=_;rw[HR.out];unfold zE;rw[h1,h2,h3,h4,h5,h6,h7,h8,h9];simp[Bool.and_assoc]
 have k1:∀W,Calls Tryz.prog 106 #[.int .i64 x.op,.int .u8 100] W fun e w'=>e = .returned (.bool false)∧Below W.heap.size W w':=fun W=>zA x.op 100 _ (by rw[q1,h1];try rfl) W
 have k2:∀W,Calls Tryz.prog 106 #[.int .i64 x.op,.int .u8 97] W fun e w'=>e = .returned (.bool true)∧Below W.heap.size W w':=fun W=>zA x.op 97 _ (by rw[q2,h2];try rfl) W
 have k3:∀W,Calls Tryz.prog 106 #[.int .i64 x.op,.int .u8 98] W fun e w'=>e = .returned (.bool false)∧Below W.heap.size W w':=fun W=>zA x.op 98 _ (by rw[q3,h3];try rfl) W
 have k4:∀W,Calls Tryz.prog 106 #[.int .i64 x.op,.int .u8 110] W fun e w'=>e = .returned (.bool false)∧Below W.heap.size W w':=fun W=>zA x.op 110 _ (by rw[q4,h4,h5];try rfl) W
 have k5:∀W,Calls Tryz.prog 106 #[.int .i64 x.op,.int .u8 99] W fun e w'=>e = .returned (.bool false)∧Below W.heap.size W w':=fun W=>zA x.op 99 _ (by rw[q5,h6];try rfl) W
 have k6:∀W,Calls Tryz.prog 106 #[.int .i64 x.op,.int .u8 109] W fun e w'=>e = .returned (.bool false)∧Below W.heap.size W w':=fun W=>zA x.op 109 _ (by rw[q6,h7];try rfl) W
 have k7:∀W,Calls Tryz.prog 106 #[.int .i64 x.op,.int .u8 108] W fun e w'=>e = .returned (.bool false)∧Below W.heap.size W w':=fun W=>zA x.op 108 _ (by rw[q7,h8];try rfl) W
 have k8:∀W,Calls Tryz.prog 106 #[.int .i64 x.op,.int .u8 103] W fun e w'=>e = .returned (.bool false)∧Below W.heap.size W w':=fun W=>zA x.op 103 _ (by rw[q8,h9];try rfl) W
 clear q1 q2 q3 q4 q5 q6 q7 q8 h1 h2 h3 h4 h5 h6 h7 h8 h9
 rcases bspU (x.dst==0) with z1|z1
 rotate_left
 rcases bspU (x.b==0) with z3|z3
 rotate_left
 rcases bspU (x.n==0) with z4|z4
 rotate_left
 rcases bspU (x.cls.toList.isEmpty) with z5|z5
 rotate_left
 rcases bspU (x.name.toList.isEmpty) with z6|z6
 rotate_left
 rcases bspU ((x.args.length:Int)==0) with z7|z7
 rotate_left
 rcases bspU (x.jmp==0) with z8|z8
 rotate_left
 all_goals
  go_enter Tryz.func268,Tryz.ntmps268
  go_upto_region 1 with fail
  generalize hW:World.alloc _ _=W1 at *
  have bx:Box W1 w.heap.size [.int .i64 x.op,.int .i64 x.dst,.int .i64 x.a,.int .i64 x.b,.int .i64 x.n,.string x.cls,.string x.name,.slice AI x.args.length cI,.int .i64 x.jmp,.int .i64 x.hnd] 59:=by rw[←hW];exact Box.new _ _ _
  clear hW;have p0:=bx.cell 0 rfl;have p1:=bx.cell 1 rfl;have p2:=bx.cell 2 rfl;have p3:=bx.cell 3 rfl;have p4:=bx.cell 4 rfl;have p5:=bx.cell 5 rfl;have p6:=bx.cell 6 rfl;have p7:=bx.cell 7 rfl;have p8:=bx.cell 8 rfl;have pl:=bx.lt;clear bx
  go_upto_region 2 with fail
  refine zr ?_
  try simp only[List.append_eq,List.cons_append,List.nil_append]
  repeat(go_big_quiet_step ((go_at_call 106;first|with_reducible exact Calls.later (k1 _)|with_reducible exact Calls.later (k2 _)|with_reducible exact Calls.later (k3 _)|with_reducible exact Calls.later (k4 _)|with_reducible exact Calls.later (k5 _)|with_reducible exact Calls.later (k6 _)|with_reducible exact Calls.later (k7 _)|with_reducible exact Calls.later (k8 _))))
  refine wpQuiet_nil ?_;rintro _ ⟨y,rfl⟩
  go_wp2_with fail
  go_ret
  exact⟨by rw[HB.out];(try rw[z1]);(try rw[z3]);(try rw[z4]);(try rw[z5]);(try rw[z6]);(try rw[z7]);(try rw[z8]);rfl,za hb0 y.h⟩
theorem adh(x:Ins)(AI:Option Addr)(cI:Nat)(w:World)(hop:x.op=5∨x.op=13) :
  Calls Tryz.prog 268 #[.agg #[.int .i64 x.op,.int .i64 x.dst,.int .i64 x.a,.int .i64 x.b,.int .i64 x.n,.string x.cls,.string x.name,.slice AI x.args.length cI,.int .i64 x.jmp,.int .i64 x.hnd]] w fun e w'=>e = .returned (.bool (zE x))∧Below w.heap.size w w':=by
 rcases hop with h|h
 ·exact aeP x AI cI w (by rw[h];constructor<;>rfl)
 ·exact ad5 x AI cI w (by rw[h];constructor<;>rfl)
end Go.Proofs.YtmhdambkchlilaaGreatDoor
