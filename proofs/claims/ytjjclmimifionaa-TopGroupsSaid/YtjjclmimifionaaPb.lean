/-
  Texts.
-/
import Derived.Test.YtjjclmimifionaaCa
import Derived.Test.YtjjclmimifionaaVmD
namespace Go.Vm.TopG
open Go.Proofs
set_option maxRecDepth 20000
theorem image_Check_ok {F:Nat} {a0:S_Image} {r:Int} (h:image_Check F a0=some r):ACall Try.prog 40 [.agg (cS_Image a0)] [] (.d (.v (.int .i64 r))) []:=by
 rw [image_Check] at h
 refine ACall.intro (N:=54) Try.func40 rfl rfl rfl rfl rfl fun e=>?_
 refine tR [] [1] ?_
 refine T_seqk ?_
 obtain ⟨z1,hz1,h⟩:=lett_ok h
 refine tR [iB 12 hz1] [1,23] ?_
 refine tC h (fun hc h=>?_) fun hc h=>?_
 ·refine tR [] [2] ?_
  cases h
  refine T_ret (tq [2])
 ·refine T_skip (tS ?_)
  refine T_seqk ?_
  refine tR [] [1,3] ?_
  obtain ⟨z2,hz2,h⟩:=lett_ok h
  refine tR [iW 2 (len_ok cS_Inks (xs:=a0.f2)),iW 8 (len_ok cU (xs:=a0.f3)),iW 13 (len_ok cU (xs:=a0.f3)),iB 16 hz2] [1,46] ?_
  refine tC h (fun hc h=>?_) fun hc h=>?_
  ·refine tR [] [2] ?_
   cases h
   refine T_ret (tq [2])
  ·refine T_skip (tS ?_)
   obtain ⟨y1,hy1,h⟩:=call_ok h
   refine tR [iC 2 [] (affine_Invert_ok hy1)] [5] ?_
   refine tR [] [2] ?_
   cases h
   refine T_ret (tq [2])
theorem list_CheckSource_ok {F:Nat} {a0:S_Source} {a1:Int} {r:Int} (h:list_CheckSource F a0 a1=some r):ACall Try.prog 22 [.agg (cS_Source a0),.d (.v (.int .i64 a1))] [] (.d (.v (.int .i64 r))) []:=by
 rw [list_CheckSource] at h
 refine ACall.intro (N:=86) Try.func22 rfl rfl rfl rfl rfl fun e=>?_
 refine tR [] [1,2] ?_
 refine tR [] [1,2,5] ?_
 refine jE h [5] (fun p=>[(5,dB p)]) (fun s h hk1=>?_) (fun v8 h=>?_)
 ·refine tR [] [1,2,5,13] ?_
  refine T_block ?_
  refine tR [] [1,2,5,13,14] ?_
  refine tC h (fun hc h=>?_) fun hc h=>?_
  ·refine T_seqk ?_
   obtain ⟨y3,hy1,h⟩:=call_ok h
   obtain ⟨y4,hy2,h⟩:=call_ok h
   refine tR [iC 1 [] (list_isZero_ok hy1),iD 6 [] (fun hg=>list_noImage_ok (gcall_ok hg hy2))] [1,2,24] ?_
   refine tC h (fun hc h=>?_) fun hc h=>?_
   ·refine tR [] [4] ?_
    cases h
    have h:=callE_esc hk1
    cases h
    refine T_ret (tq [4])
   ·refine T_skip (tS ?_)
    obtain ⟨y5,hy3,h⟩:=call_ok h
    cases h
    refine tRe [iC 3 [] (list_few_ok hy3)] [5] (tG [.keep [5]])
  ·refine jc h [1,2,5,13,29] (fun p=>[(29,dB p)]) (fun s h=>?_) (fun v5 h=>?_)
   ·refine tR [] [1,2,5,13,29] ?_
    refine tC h (fun hc h=>?_) fun hc h=>?_
    ·cases h
     refine T_skip (tJ [.keep [1,2,5,13,29]])
    ·cases h
     refine tRe [] [1,2,5,13,29] (tJ [.keep [1,2,5,13,29]])
   ·refine tC h (fun hc h=>?_) fun hc h=>?_
    ·refine T_seqk ?_
     obtain ⟨y6,hy4,h⟩:=call_ok h
     refine tR [iC 1 [] (gradient_Check_ok hy4)] [1,2,5,6] ?_
     refine tR [] [1,2,5,6,35] ?_
     refine tC h (fun hc h=>?_) fun hc h=>?_
     ·refine tR [] [4] ?_
      cases h
      have h:=callE_esc hk1
      cases h
      refine T_ret (tq [4])
     ·refine T_skip (tS ?_)
      refine tR [iW 2 (len_ok cS_Stop (xs:=a0.f5))] [1,5,38,39,40] ?_
      refine jct h [5] (fun p=>[(5,dB p)]) (fun s h=>?_) (fun v6 h=>?_)
      ·refine T_block ?_
       refine tL2 (list_CheckSource_L1 F a0 a1) [.keep [1,5,38,39,40]] [1,5,38,39,40] (fun v1 v2=>[(5,dB v1),(40,dI v2)]) F true (0:Int) h fun n v1 v2 h=>?_
       rw [list_CheckSource_L1] at h
       refine tR [] [1,5,38,39,40,41] ?_
       refine T_seqk ?_
       refine tC h (fun hc h=>?_) fun hc h=>?_
       ·refine T_skip (tS ?_)
        refine T_seqk ?_
        refine T_block ?_
        obtain ⟨hp1,h⟩:=chk_ok h
        refine tR [iI 0 (idx_ok (d:=z_Stop) cS_Stop hp1)] [1,5,8,38,39,40] ?_
        obtain ⟨y1,hy5,h⟩:=call_ok h
        refine tRe [iD 5 [] (fun hg=>list_few_ok (gcall_ok hg hy5))] [1,5,38,39,40] (tS ?_)
        refine tRe [] [1,5,38,39,40] (tE [.keep [1,5,38,39,40]] ((bif v1 then y1 else false),IntKind.i64.wrap (v2+(1:Int))) h)
       ·cases h
        refine T_exit (tJ [.keep [5]])
      ·cases h
       refine tG [.keep [5]]
    ·refine tR [] [1,2,5,52] ?_
     refine tC h (fun hc h=>?_) fun hc h=>?_
     ·refine T_seqk ?_
      obtain ⟨y7,hy6,h⟩:=call_ok h
      obtain ⟨z1,hz1,h⟩:=lett_ok h
      refine tR [iC 1 [] (list_isZero_ok hy6),iB 7 hz1] [1,2,5,62] ?_
      refine tC h (fun hc h=>?_) fun hc h=>?_
      ·refine tR [] [4] ?_
       cases h
       have h:=callE_esc hk1
       cases h
       refine T_ret (tq [4])
      ·refine T_skip (tS ?_)
       refine T_seqk ?_
       obtain ⟨y8,hy7,h⟩:=call_ok h
       refine tR [iC 2 [] (image_Check_ok hy7)] [1,2,5,9] ?_
       refine tR [] [1,2,5,9,67] ?_
       refine tC h (fun hc h=>?_) fun hc h=>?_
       ·refine tR [] [4] ?_
        cases h
        have h:=callE_esc hk1
        cases h
        refine T_ret (tq [4])
       ·refine T_skip (tS ?_)
        refine tR [iW 3 (len_ok cS_Inks (xs:=a0.f6.f2))] [1,5,71,72,73] ?_
        refine jct h [5] (fun p=>[(5,dB p)]) (fun s h=>?_) (fun v7 h=>?_)
        ·refine T_block ?_
         refine tL2 (list_CheckSource_L3 F a0 a1) [.keep [1,5,71,72,73]] [1,5,71,72,73] (fun v3 v4=>[(5,dB v3),(73,dI v4)]) F true (0:Int) h fun n v3 v4 h=>?_
         rw [list_CheckSource_L3] at h
         refine tR [] [1,5,71,72,73,74] ?_
         refine T_seqk ?_
         refine tC h (fun hc h=>?_) fun hc h=>?_
         ·refine T_skip (tS ?_)
          refine T_seqk ?_
          refine T_block ?_
          obtain ⟨hp2,h⟩:=chk_ok h
          refine tR [iI 0 (idx_ok (d:=z_Inks) cS_Inks hp2)] [1,5,11,71,72,73] ?_
          obtain ⟨y2,hy8,h⟩:=call_ok h
          refine tRe [iD 4 [] (fun hg=>list_few_ok (gcall_ok hg hy8))] [1,5,71,72,73] (tS ?_)
          refine tRe [] [1,5,71,72,73] (tE [.keep [1,5,71,72,73]] ((bif v3 then y2 else false),IntKind.i64.wrap (v4+(1:Int))) h)
         ·cases h
          refine T_exit (tJ [.keep [5]])
        ·cases h
         refine tG [.keep [5]]
     ·refine tR [] [4] ?_
      cases h
      have h:=callE_esc hk1
      cases h
      refine T_ret (tq [4])
 ·refine T_seqk ?_
  refine tR [] [85] ?_
  refine tC h (fun hc h=>?_) fun hc h=>?_
  ·refine tR [] [4] ?_
   cases h
   refine T_ret (tq [4])
  ·refine T_skip (tS ?_)
   refine tR [] [4] ?_
   cases h
   refine T_ret (tq [4])
theorem list_checkItem_ok {F:Nat} {a0:S_Item} {a1:Int} {a2:Int} {r:Int} (h:list_checkItem F a0 a1 a2=some r):ACall Try.prog 13 [.agg (cS_Item a0),.d (.v (.int .i64 a1)),.d (.v (.int .i64 a2))] [] (.d (.v (.int .i64 r))) []:=by
 rw [list_checkItem] at h
 refine ACall.intro (N:=125) Try.func13 rfl rfl rfl rfl rfl fun e=>?_
 refine tR [] [1,2,3] ?_
 refine tR [] [1,2,3] ?_
 refine jE h [1,2,3,7] (fun p=>[(7,dB p)]) (fun s h hk1=>?_) (fun v1 h=>?_)
 ·refine tR [] [1,2,3,10] ?_
  refine T_block ?_
  refine tR [] [1,2,3,10,11] ?_
  refine tC h (fun hc h=>?_) fun hc h=>?_
  ·cases h
   refine tRe [] [1,2,3,7] (tG [.keep [1,2,3,7]])
  ·refine tR [] [1,2,3,10,19] ?_
   refine tC h (fun hc h=>?_) fun hc h=>?_
   ·obtain ⟨y1,hy1,h⟩:=call_ok h
    cases h
    refine tRe [iW 2 (len_ok cS_Run (xs:=a0.f1)),iD 11 [] (fun hg=>list_noSource_ok (gcall_ok hg hy1))] [1,2,3,7] (tG [.keep [1,2,3,7]])
   ·refine tR [] [1,2,3,35] ?_
    refine tC h (fun hc h=>?_) fun hc h=>?_
    ·obtain ⟨y2,hy2,h⟩:=call_ok h
     obtain ⟨z1,hz1,h⟩:=lett_ok h
     obtain ⟨z2,hz2,h⟩:=lett_ok h
     cases h
     refine tRe [iW 2 (len_ok cS_Run (xs:=a0.f1)),iD 11 [] (fun hg=>list_noSource_ok (gcall_ok hg hy2)),iB 17 hz1,iB 31 hz2] [1,2,3,7] (tG [.keep [1,2,3,7]])
    ·refine tR [] [6] ?_
     cases h
     have h:=callE_esc hk1
     cases h
     refine T_ret (tq [6])
 ·refine T_seqk ?_
  refine T_block ?_
  refine tR [] [1,2,3,69] ?_
  refine tC h (fun hc h=>?_) fun hc h=>?_
  ·refine tR [] [6] ?_
   cases h
   refine T_ret (tq [6])
  ·refine tR [] [1,2,3,71] ?_
   refine tC h (fun hc h=>?_) fun hc h=>?_
   ·refine tR [] [6] ?_
    cases h
    refine T_ret (tq [6])
   ·refine tR [] [1,3,79] ?_
    refine tC h (fun hc h=>?_) fun hc h=>?_
    ·refine tR [] [6] ?_
     cases h
     refine T_ret (tq [6])
    ·obtain ⟨z3,hz3,h⟩:=lett_ok h
     refine tR [iB 22 hz3] [1,3,87] ?_
     refine tC h (fun hc h=>?_) fun hc h=>?_
     ·refine tR [] [6] ?_
      cases h
      refine T_ret (tq [6])
     ·refine tR [] [1,3,111] ?_
      refine tC h (fun hc h=>?_) fun hc h=>?_
      ·refine tR [] [6] ?_
       cases h
       refine T_ret (tq [6])
      ·refine T_skip (tS ?_)
       refine T_seqk ?_
       obtain ⟨y3,hy3,h⟩:=call_ok h
       refine tR [iC 2 [] (region_Check_ok hy3)] [1,3,8] ?_
       refine tR [] [1,3,8,119] ?_
       refine tC h (fun hc h=>?_) fun hc h=>?_
       ·refine tR [] [6] ?_
        cases h
        refine T_ret (tq [6])
       ·refine T_skip (tS ?_)
        obtain ⟨y4,hy4,h⟩:=call_ok h
        refine tR [iC 3 [] (list_CheckSource_ok hy4)] [6] ?_
        cases h
        refine T_ret (tq [6])
theorem list_Check_ok {F:Nat} {a0:S_List} {r:Int} (h:list_Check F a0=some r):ACall Try.prog 6 [.agg (cS_List a0)] [] (.d (.v (.int .i64 r))) []:=by
 rw [list_Check] at h
 refine ACall.intro (N:=88) Try.func6 rfl rfl rfl rfl rfl fun e=>?_
 refine tR [] [1] ?_
 refine T_seqk ?_
 obtain ⟨z2,hz1,h⟩:=lett_ok h
 refine tR [iB 12 hz1] [1,26] ?_
 refine tC h (fun hc h=>?_) fun hc h=>?_
 ·refine tR [] [2] ?_
  cases h
  refine T_ret (tq [2])
 ·refine T_skip (tS ?_)
  refine T_seqk ?_
  obtain ⟨z3,hz2,h⟩:=lett_ok h
  refine tR [iW 2 (len_ok cS (xs:=a0.f2)),iW 7 (len_ok cS (xs:=a0.f2)),iB 9 hz2] [1,36] ?_
  refine tC h (fun hc h=>?_) fun hc h=>?_
  ·refine tR [] [2] ?_
   cases h
   refine T_ret (tq [2])
  ·refine T_skip (tS ?_)
   refine T_seqk ?_
   refine tR [iW 2 (len_ok cS (xs:=a0.f2))] [1,38,39,40] ?_
   refine jEt h [1] (fun p=>[]) (fun s h hk1=>?_) (fun s h=>?_)
   ·refine T_block ?_
    refine tL1 (list_Check_L0 F a0) [.keep [1,38,39,40]] [1,38,39,40] (fun v1=>[(40,dI v1)]) F (0:Int) h fun n v1 h=>?_
    rw [list_Check_L0] at h
    refine tR [] [1,38,39,40,41] ?_
    refine T_seqk ?_
    refine tC h (fun hc h=>?_) fun hc h=>?_
    ·refine T_skip (tS ?_)
     refine T_seqk ?_
     refine T_block ?_
     obtain ⟨hp1,h⟩:=chk_ok h
     refine tR [iI 1 (idx_ok (d:=[]) cS hp1)] [1,3,4,38,39,40] ?_
     refine T_seqk ?_
     obtain ⟨y1,hy1,h⟩:=call_ok h
     refine tR [iC 1 [] (list_IsName_ok hy1)] [1,3,4,38,39,40,47] ?_
     refine tC h (fun hc h=>?_) fun hc h=>?_
     ·refine tR [] [2] ?_
      cases h
      have h:=callE_esc hk1
      cases h
      refine T_ret (tq [2])
     ·refine T_skip (tS ?_)
      obtain ⟨hp2,h⟩:=chk_ok h
      obtain ⟨y2,hy2,h⟩:=call_ok h
      refine tR [iW 3 (show (0≤(0:Int)∧(0:Int)≤v1∧v1≤((a0.f2.map cS).length:Int))∧AV.d (.sl 1 (((a0.f2.map cS).drop (0:Int).toNat).take (v1.toNat - (0:Int).toNat)))=.d (.sl 1 (((a0.f2.drop (0:Int).toNat).take (v1.toNat - (0:Int).toNat)).map cS)) from cutH cS hp2),iC 5 [] (slices_Contains_string_ok hy2)] [1,38,39,40,53] ?_
      refine tC h (fun hc h=>?_) fun hc h=>?_
      ·refine tR [] [2] ?_
       cases h
       have h:=callE_esc hk1
       cases h
       refine T_ret (tq [2])
      ·refine T_skip (tS ?_)
       refine tRe [] [1,38,39,40] (tE [.keep [1,38,39,40]] (IntKind.i64.wrap (v1+(1:Int))) h)
    ·cases h
     refine T_exit (tG [.keep [1]])
   ·refine tS ?_
    refine T_seqk ?_
    refine tR [iW 2 (len_ok cS_Item (xs:=a0.f3))] [1,58] ?_
    refine tC h (fun hc h=>?_) fun hc h=>?_
    ·refine tR [] [2] ?_
     cases h
     refine T_ret (tq [2])
    ·refine T_skip (tS ?_)
     refine tR [] [1,5] ?_
     refine T_seqk ?_
     refine tR [iW 2 (len_ok cS_Item (xs:=a0.f3))] [1,5,60,61,62] ?_
     refine jEt h [5] (fun p=>[(5,dI p)]) (fun s h hk2=>?_) (fun v5 h=>?_)
     ·refine T_block ?_
      refine tL2 (list_Check_L2 F a0) [.keep [1,5,60,61,62]] [1,5,60,61,62] (fun v2 v3=>[(5,dI v2),(62,dI v3)]) F (0:Int) (0:Int) h fun n v2 v3 h=>?_
      rw [list_Check_L2] at h
      refine tR [] [1,5,60,61,62,63] ?_
      refine T_seqk ?_
      refine tC h (fun hc h=>?_) fun hc h=>?_
      ·refine T_skip (tS ?_)
       refine jE h [1,5,60,61,62] (fun p=>[(5,dI p)]) (fun s h hk3=>?_) (fun v4 h=>?_)
       ·refine T_block ?_
        obtain ⟨hp3,h⟩:=chk_ok h
        refine tR [iI 0 (idx_ok (d:=z_Item) cS_Item hp3)] [1,5,7,60,61,62] ?_
        refine T_seqk ?_
        obtain ⟨y3,hy3,h⟩:=call_ok h
        refine tR [iW 3 (len_ok cS (xs:=a0.f2)),iC 5 [] (list_checkItem_ok hy3)] [1,5,7,8,60,61,62] ?_
        refine tR [] [1,5,7,8,60,61,62,73] ?_
        refine tC h (fun hc h=>?_) fun hc h=>?_
        ·refine tR [] [2] ?_
         cases h
         have h:=callE_esc hk3
         cases h
         have h:=callE_esc hk2
         cases h
         refine T_ret (tq [2])
        ·refine T_skip (tS ?_)
         obtain ⟨z1,hz3,h⟩:=lett_ok h
         refine tR [iN 1 hz3] [1,5,60,61,62,76] ?_
         refine T_block ?_
         refine tR [] [1,5,60,61,62,76,77] ?_
         refine tC h (fun hc h=>?_) fun hc h=>?_
         ·cases h
          refine tRe [] [1,5,60,61,62] (tG [.keep [1,5,60,61,62]])
         ·refine tR [] [1,5,60,61,62,81] ?_
          refine tC h (fun hc h=>?_) fun hc h=>?_
          ·cases h
           refine tRe [] [1,5,60,61,62] (tG [.keep [1,5,60,61,62]])
          ·cases h
           refine T_skip (tG [.keep [1,5,60,61,62]])
       ·refine tRe [] [1,5,60,61,62] (tE [.keep [1,5,60,61,62]] (v4,IntKind.i64.wrap (v3+(1:Int))) h)
      ·cases h
       refine T_exit (tG [.keep [5]])
     ·refine tS ?_
      refine T_seqk ?_
      refine tR [] [87] ?_
      refine tC h (fun hc h=>?_) fun hc h=>?_
      ·refine tR [] [2] ?_
       cases h
       refine T_ret (tq [2])
      ·refine T_skip (tS ?_)
       refine tR [] [2] ?_
       cases h
       refine T_ret (tq [2])
set_option maxHeartbeats 4000000 in
theorem list_Bracket_ok {F:Nat} {a0:S_List} {a1:Int} {a2:Int} {a3:S_Item} {r:S_List×Int} (h:list_Bracket F a0 a1 a2 a3=some r):ACall Try.prog 8 [.agg (cS_List a0),.d (.v (.int .i64 a1)),.d (.v (.int .i64 a2)),.agg (cS_Item a3)] [] (.tup [.agg (cS_List r.1),.d (.v (.int .i64 r.2))]) []:=by
 rw [list_Bracket] at h
 refine ACall.intro (N:=67) Try.func8 rfl rfl rfl rfl rfl fun e=>?_
 refine tR [] [1,2,4,7,8] ?_
 refine T_seqk ?_
 obtain ⟨y1,hy1,h⟩:=call_ok h
 refine tR [iC 1 [] (list_Check_ok hy1)] [1,2,4,7,8,10] ?_
 refine tR [] [1,2,4,7,8,10,16] ?_
 refine tC h (fun hc h=>?_) fun hc h=>?_
 ·refine T_region [(0,{ take:=[0] })] [8,9] [.nilc 8 2 9 1,.nilc 8 3 48 34,.keep [8,9]] [(8,.box [dI 0,dI 0,oW1 [],oW2 []]),(9,dI y1)] [] 4 (by kernel_rfl) (trivial) ?_
  cases h
  refine T_ret (tqc [.frz (8,3),.frz (8,4),.keep [8,9]])
 ·refine T_skip (tS ?_)
  refine T_seqk ?_
  obtain ⟨z1,hz1,h⟩:=lett_ok h
  refine tR [iW 11 (len_ok cS_Item (xs:=a0.f3)),iB 13 hz1] [1,2,4,7,8,32] ?_
  refine tC h (fun hc h=>?_) fun hc h=>?_
  ·refine T_region [(0,{ take:=[0] })] [8,9] [.nilc 8 2 9 1,.nilc 8 3 48 34,.keep [8,9]] [(8,.box [dI 0,dI 0,oW1 [],oW2 []]),(9,dI (3:Int))] [] 3 (by kernel_rfl) (trivial) ?_
   cases h
   refine T_ret (tqc [.frz (8,3),.frz (8,4),.keep [8,9]])
  ·refine T_skip (tS ?_)
   refine T_seqk ?_
   refine tR [] [1,2,4,7,8,36] ?_
   refine tC h (fun hc h=>?_) fun hc h=>?_
   ·refine T_region [(0,{ take:=[0] })] [8,9] [.nilc 8 2 9 1,.nilc 8 3 48 34,.keep [8,9]] [(8,.box [dI 0,dI 0,oW1 [],oW2 []]),(9,dI (14:Int))] [] 3 (by kernel_rfl) (trivial) ?_
    cases h
    refine T_ret (tqc [.frz (8,3),.frz (8,4),.keep [8,9]])
   ·refine T_skip (tS ?_)
    obtain ⟨y2,hy2,h⟩:=call_ok h
    refine tR [iC 1 [] (list_copied_ok hy2)] [1,2,7,8,11] ?_
    obtain ⟨hp1,h⟩:=chk_ok h
    obtain ⟨hp2,h⟩:=chk_ok h
    obtain ⟨hp3,h⟩:=chk_ok h
    obtain ⟨y3,hy3,h⟩:=call_ok h
    refine T_drawG mixed [(21,0,some 0),(20,1,some 2),(19,5,some 6),(18,69,some 8),(17,325,some 9),(16,837,some 13),(15,9029,some 15),(14,41797,none),(13,41799,none),(13,41813,none),(13,41925,none),(13,43845,none),(13,58181,none),(12,41807,none),(12,41815,none),(12,41845,some 11),(12,41927,none),(12,41941,none),(12,42949,none),(12,43847,none),(12,43861,none),(12,43973,none),(12,47941,some 4),(12,58183,none),(12,58197,none),(12,58309,none),(12,60229,none),(12,123717,none),(11,41823,none),(11,41847,some 11),(11,41935,none),(11,41943,none),(11,41973,some 11),(11,42951,none),(11,42965,none),(11,43855,none),(11,43863,none),(11,43893,none),(11,43975,none),(11,43989,none),(11,44997,none),(11,47943,some 4),(11,47957,none),(11,48069,some 4),(11,58191,none),(11,58199,none),(11,58229,some 11),(11,58311,none),(11,58325,none),(11,59333,none),(11,60231,none),(11,60245,none),(11,60357,none),(11,64325,some 4),(11,123719,none),(11,123733,none),(11,123845,none),(11,125765,none),(10,41855,some 11),(10,41951,none),(10,41975,some 11),(10,42959,none),(10,42967,none),(10,42997,some 11),(10,43871,none),(10,43895,none),(10,43983,none),(10,43991,none),(10,44021,none),(10,44999,none),(10,45013,none),(10,47951,some 4),(10,47959,none),(10,47989,some 1),(10,48071,some 4),(10,48085,none),(10,49093,some 4),(10,58207,none),(10,58231,some 11),(10,58319,none),(10,58327,none),(10,58357,some 11),(10,59335,none),(10,59349,none),(10,60239,none),(10,60247,none),(10,60277,none),(10,60359,none),(10,60373,none),(10,61381,none),(10,64327,some 4),(10,64341,none),(10,64453,some 4),(10,123727,none),(10,123735,none),(10,123765,some 11),(10,123847,none),(10,123861,none),(10,124869,none),(10,125767,none),(10,125781,none),(10,125893,none),(10,129861,some 4),(9,41983,some 11),(9,42975,none),(9,42999,some 11),(9,43903,none),(9,43999,none),(9,44023,none),(9,45007,none),(9,45015,none),(9,45045,none),(9,47967,none),(9,47991,some 3),(9,48079,some 4),(9,48087,none),(9,48117,some 1),(9,49095,some 4),(9,49109,none),(9,58239,some 11),(9,58335,none),(9,58359,some 11),(9,59343,none),(9,59351,none),(9,59381,some 11),(9,60255,none),(9,60279,none),(9,60367,none),(9,60375,none),(9,60405,none),(9,61383,none),(9,61397,none),(9,64335,some 4),(9,64343,none),(9,64373,some 1),(9,64455,some 4),(9,64469,none),(9,65477,some 4),(9,123743,none),(9,123767,some 11),(9,123855,none),(9,123863,none),(9,123893,some 11),(9,124871,none),(9,124885,none),(9,125775,none),(9,125783,none),(9,125813,none),(9,125895,none),(9,125909,none),(9,126917,none),(9,129863,some 4),(9,129877,none),(9,129989,some 4),(8,43007,some 11),(8,44031,none),(8,45023,none),(8,45047,none),(8,47999,some 7),(8,48095,none),(8,48119,some 3),(8,49103,some 4),(8,49111,none),(8,49141,some 1),(8,58367,some 11),(8,59359,none),(8,59383,some 11),(8,60287,none),(8,60383,none),(8,60407,none),(8,61391,none),(8,61399,none),(8,61429,none),(8,64351,none),(8,64375,some 3),(8,64463,some 4),(8,64471,none),(8,64501,some 1),(8,65479,some 4),(8,65493,none),(8,123775,some 11),(8,123871,none),(8,123895,some 11),(8,124879,none),(8,124887,none),(8,124917,some 11),(8,125791,none),(8,125815,none),(8,125903,none),(8,125911,none),(8,125941,none),(8,126919,none),(8,126933,none),(8,129871,some 4),(8,129879,none),(8,129909,some 1),(8,129991,some 4),(8,130005,none),(8,131013,some 4),(7,45055,none),(7,48127,some 10),(7,49119,none),(7,49143,some 3),(7,59391,some 11),(7,60415,none),(7,61407,none),(7,61431,none),(7,64383,some 7),(7,64479,none),(7,64503,some 3),(7,65487,some 4),(7,65495,none),(7,65525,some 1),(7,123903,some 11),(7,124895,none),(7,124919,some 11),(7,125823,none),(7,125919,none),(7,125943,none),(7,126927,none),(7,126935,none),(7,126965,none),(7,129887,none),(7,129911,some 3),(7,129999,some 4),(7,130007,none),(7,130037,some 1),(7,131015,some 4),(7,131029,none),(6,49151,some 14),(6,61439,none),(6,64511,some 10),(6,65503,none),(6,65527,some 3),(6,124927,some 11),(6,125951,none),(6,126943,none),(6,126967,none),(6,129919,some 7),(6,130015,none),(6,130039,some 3),(6,131023,some 4),(6,131031,none),(6,131061,some 1),(5,65535,some 16),(5,126975,none),(5,130047,some 10),(5,131039,none),(5,131063,some 3),(4,131071,none),(3,262143,none),(2,524287,some 19),(1,1048575,none),(0,2097151,none)] [(21,11,.box [dI y2.f0,dI y2.f1,.d (.sl 1 (y2.f2.map cS)),oW2 y3]),(21,58,.junk),(20,59,.bp 11 3),(19,57,.fz 1 (([((y2.f3.drop (0:Int).toNat).take (a1.toNat - (0:Int).toNat)),[a3],((y2.f3.drop a1.toNat).take (a2.toNat - a1.toNat)),[(S_Item.mk (2:Int) [] z_Source 0 0 false false false)],((y2.f3.drop a2.toNat).take ((y2.f3.length:Int).toNat - a2.toNat))]).map (cL 34 cS_Item))),(19,58,oW2 y3),(18,45,.fz 34 (([a3]).map cS_Item)),(18,52,.fz 34 (([(S_Item.mk (2:Int) [] z_Source 0 0 false false false)]).map cS_Item)),(18,57,.own 23 1 (([((y2.f3.drop (0:Int).toNat).take (a1.toNat - (0:Int).toNat)),[a3],((y2.f3.drop a1.toNat).take (a2.toNat - a1.toNat)),[(S_Item.mk (2:Int) [] z_Source 0 0 false false false)],((y2.f3.drop a2.toNat).take ((y2.f3.length:Int).toNat - a2.toNat))]).map (cL 34 cS_Item))),(17,56,.d (.sl 34 (((y2.f3.drop a2.toNat).take ((y2.f3.length:Int).toNat - a2.toNat)).map cS_Item))),(16,55,dI a2),(15,54,.d (.sl 34 (y2.f3.map cS_Item))),(14,53,.bp 11 3),(13,52,.own 48 34 (([(S_Item.mk (2:Int) [] z_Source 0 0 false false false)]).map cS_Item)),(12,51,.agg (cS_Item (S_Item.mk (2:Int) [] z_Source 0 0 false false false))),(11,50,.d (.sl 34 (((y2.f3.drop a1.toNat).take (a2.toNat - a1.toNat)).map cS_Item))),(10,49,dI a2),(9,48,dI a1),(8,47,.d (.sl 34 (y2.f3.map cS_Item))),(7,46,.bp 11 3),(6,45,.own 48 34 (([a3]).map cS_Item)),(5,44,.agg (cS_Item a3)),(4,43,.d (.sl 34 (((y2.f3.drop (0:Int).toNat).take (a1.toNat - (0:Int).toNat)).map cS_Item))),(3,42,dI a1),(2,41,.d (.sl 34 (y2.f3.map cS_Item))),(1,40,.bp 11 3),(0,1,dI a1),(0,2,dI a2),(0,7,bx_Item a3),(0,8,.box [dI 0,dI 0,oW1 [],oW2 []]),(0,11,bx_List y2)] [1,2,7,8,11,40,41,42,43,44,45,46,47,48,49,50,51,52,53,54,55,56,57,58,59] ([0,1,0,6,0,16,0,64,0,0,896,0,2048,0,8192,0,49152,70696,131072,524287,1048575],[0,1,0,6,0,16,0,64,0,0,896,0,2048,0,8192,0,49152,70696,131072,0,786432]) 651231 [(3,{ rw:=some (.d (.sl 34 (((y2.f3.drop (0:Int).toNat).take (a1.toNat - (0:Int).toNat)).map cS_Item))) }),(5,{ es:=some (([a3]).map cS_Item) }),(10,{ rw:=some (.d (.sl 34 (((y2.f3.drop a1.toNat).take (a2.toNat - a1.toNat)).map cS_Item))) }),(12,{ es:=some (([(S_Item.mk (2:Int) [] z_Source 0 0 false false false)]).map cS_Item) }),(16,{ rw:=some (.d (.sl 34 (((y2.f3.drop a2.toNat).take ((y2.f3.length:Int).toNat - a2.toNat)).map cS_Item))) }),(17,{ frz:=[(45,0),(52,0)],es:=some (([((y2.f3.drop (0:Int).toNat).take (a1.toNat - (0:Int).toNat)),[a3],((y2.f3.drop a1.toNat).take (a2.toNat - a1.toNat)),[(S_Item.mk (2:Int) [] z_Source 0 0 false false false)],((y2.f3.drop a2.toNat).take ((y2.f3.length:Int).toNat - a2.toNat))]).map (cL 34 cS_Item)) }),(18,{ frz:=[(57,0)],res:=oW2 y3 })] [8,11] [] [(8,.box [dI 0,dI 0,oW1 [],oW2 []]),(11,.box [dI y2.f0,dI y2.f1,.d (.sl 1 (y2.f2.map cS)),oW2 y3])] ((fun (o3:Prop)=>fun (o5:Prop)=>fun (o10:Prop)=>fun (o12:Prop)=>fun (o16:Prop)=>fun (o17:Prop)=>fun (o18:Prop)=>[(12,o3),(5,o5),(5,o10),(5,o12),(5,o16),(4,o3),(0,o5),(4,o3),(1,o10),(3,o5),(0,o10),(6,o3),(2,o12),(2,o5),(1,o12),(3,o10),(0,o12),(2,o3),(3,o16),(1,o5),(2,o16),(2,o10),(1,o16),(3,o12),(0,o16),(4,o5),(5,o10),(2,o3),(0,o5),(0,o10),(3,o3),(4,o5),(4,o12),(1,o3),(0,o5),(1,o12),(3,o12),(1,o3),(1,o10),(0,o12),(2,o5),(0,o10),(0,o12),(3,o12),(3,o5),(6,o16),(0,o3),(0,o5),(2,o16),(1,o3),(1,o10),(1,o16),(1,o5),(0,o10),(1,o16),(3,o16),(0,o3),(2,o12),(0,o16),(1,o5),(1,o12),(0,o16),(2,o10),(0,o12),(0,o16),(1,o3),(4,o5),(4,o10),(4,o12),(1,o5),(0,o10),(6,o3),(0,o5),(3,o5),(1,o12),(1,o3),(1,o12),(2,o10),(0,o12),(1,o3),(0,o5),(0,o10),(0,o12),(2,o10),(0,o12),(1,o3),(1,o12),(2,o5),(0,o12),(2,o3),(0,o5),(5,o5),(0,o10),(2,o5),(2,o16),(2,o10),(1,o16),(0,o3),(0,o5),(0,o10),(1,o16),(1,o3),(2,o16),(1,o5),(1,o16),(2,o12),(0,o16),(0,o3),(0,o5),(1,o12),(0,o16),(2,o12),(0,o16),(0,o3),(1,o10),(0,o12),(0,o16),(1,o5),(0,o10),(0,o12),(0,o16),(2,o12),(0,o16),(2,o5),(1,o16),(4,o3),(0,o5),(3,o3),(1,o10),(2,o5),(0,o10),(4,o3),(2,o12),(1,o5),(1,o12),(2,o10),(0,o12),(2,o5),(4,o12),(1,o5),(0,o10),(0,o12),(1,o3),(0,o10),(0,o12),(2,o12),(1,o3),(0,o5),(0,o12),(2,o12),(1,o5),(2,o3),(1,o3),(0,o5),(0,o10),(4,o5),(2,o5),(0,o10),(1,o16),(3,o16),(0,o3),(0,o5),(1,o16),(1,o5),(1,o12),(0,o16),(0,o3),(1,o12),(0,o16),(1,o10),(0,o12),(0,o16),(0,o3),(0,o5),(0,o10),(0,o12),(0,o16),(1,o10),(0,o12),(0,o16),(0,o3),(1,o12),(0,o16),(1,o5),(0,o12),(0,o16),(1,o3),(0,o5),(1,o16),(3,o5),(0,o10),(0,o16),(1,o5),(4,o10),(1,o3),(0,o5),(0,o10),(2,o3),(3,o5),(3,o12),(0,o3),(0,o5),(1,o12),(2,o12),(0,o3),(1,o10),(0,o12),(1,o5),(0,o10),(0,o12),(2,o12),(2,o5),(3,o10),(0,o12),(1,o5),(0,o12),(1,o3),(0,o12),(2,o5),(0,o10),(1,o3),(1,o3),(0,o5),(3,o5),(1,o16),(2,o12),(0,o16),(0,o5),(0,o10),(0,o12),(0,o16),(0,o3),(0,o10),(0,o12),(0,o16),(1,o12),(0,o16),(0,o3),(0,o5),(0,o12),(0,o16),(1,o12),(0,o16),(0,o5),(1,o16),(0,o3),(1,o3),(0,o5),(0,o10),(0,o16),(3,o5),(0,o16),(1,o5),(0,o10),(4,o3),(0,o5),(2,o5),(1,o12),(0,o3),(1,o12),(1,o10),(0,o12),(0,o3),(0,o5),(0,o10),(0,o12),(1,o10),(0,o12),(0,o3),(1,o12),(1,o5),(0,o12),(1,o3),(0,o5),(4,o5),(0,o10),(1,o12),(1,o10),(0,o5),(1,o3),(1,o10),(0,o12),(0,o16),(0,o5),(0,o12),(0,o16),(0,o3),(0,o12),(0,o16),(1,o5),(0,o10),(0,o16),(0,o3),(1,o3),(0,o5),(0,o16),(2,o5),(3,o12),(0,o5),(0,o10),(0,o12),(0,o3),(0,o10),(0,o12),(1,o12),(0,o3),(0,o5),(0,o12),(1,o12),(0,o5),(1,o3),(1,o3),(0,o5),(0,o10),(3,o5),(1,o12),(0,o16),(0,o10),(0,o5),(0,o16),(0,o3),(1,o10),(0,o12),(0,o5),(0,o12),(0,o3),(0,o12),(1,o5),(0,o10),(0,o3),(1,o3),(0,o5),(1,o16),(0,o12),(0,o10),(0,o5),(0,o3),(0,o17),(0,o18)]) ((0≤(0:Int)∧(0:Int)≤a1∧a1≤((y2.f3.map cS_Item).length:Int))∧AV.d (.sl 34 (((y2.f3.map cS_Item).drop (0:Int).toNat).take (a1.toNat - (0:Int).toNat)))=.d (.sl 34 (((y2.f3.drop (0:Int).toNat).take (a1.toNat - (0:Int).toNat)).map cS_Item))) ((([a3]).map cS_Item)=(([a3]).map cS_Item)) ((0≤a1∧a1≤a2∧a2≤((y2.f3.map cS_Item).length:Int))∧AV.d (.sl 34 (((y2.f3.map cS_Item).drop a1.toNat).take (a2.toNat - a1.toNat)))=.d (.sl 34 (((y2.f3.drop a1.toNat).take (a2.toNat - a1.toNat)).map cS_Item))) ((([(S_Item.mk (2:Int) [] z_Source 0 0 false false false)]).map cS_Item)=(([(S_Item.mk (2:Int) [] z_Source 0 0 false false false)]).map cS_Item)) ((0≤a2∧a2≤((y2.f3.map cS_Item).length:Int)∧((y2.f3.map cS_Item).length:Int)≤((y2.f3.map cS_Item).length:Int))∧AV.d (.sl 34 (((y2.f3.map cS_Item).drop a2.toNat).take (((y2.f3.map cS_Item).length:Int).toNat - a2.toNat)))=.d (.sl 34 (((y2.f3.drop a2.toNat).take ((y2.f3.length:Int).toNat - a2.toNat)).map cS_Item))) ((([((y2.f3.drop (0:Int).toNat).take (a1.toNat - (0:Int).toNat)),[a3],((y2.f3.drop a1.toNat).take (a2.toNat - a1.toNat)),[(S_Item.mk (2:Int) [] z_Source 0 0 false false false)],((y2.f3.drop a2.toNat).take ((y2.f3.length:Int).toNat - a2.toNat))]).map (cL 34 cS_Item))=(([((y2.f3.drop (0:Int).toNat).take (a1.toNat - (0:Int).toNat)),[a3],((y2.f3.drop a1.toNat).take (a2.toNat - a1.toNat)),[(S_Item.mk (2:Int) [] z_Source 0 0 false false false)],((y2.f3.drop a2.toNat).take ((y2.f3.length:Int).toNat - a2.toNat))]).map (cL 34 cS_Item))) (ACall Try.prog 15 [.d (.sl 1 (([((y2.f3.drop (0:Int).toNat).take (a1.toNat - (0:Int).toNat)),[a3],((y2.f3.drop a1.toNat).take (a2.toNat - a1.toNat)),[(S_Item.mk (2:Int) [] z_Source 0 0 false false false)],((y2.f3.drop a2.toNat).take ((y2.f3.length:Int).toNat - a2.toNat))]).map (cL 34 cS_Item)))] [] (oW2 y3) [])) 2 (by kernel_rfl) (by kernel_rfl) (by kernel_rfl) (by kernel_rfl) (by kernel_rfl) (by kernel_rfl) (have p3:=cutH cS_Item hp1; have p5:=rfl; have p10:=cutH cS_Item hp2; have p12:=rfl; have p16:=cutL cS_Item hp3; have p17:=rfl; have p18:=slices_Concat_Item_ok hy3; ⟨p3,p5,p10,p12,p16,p3,p5,p3,p10,p5,p10,p3,p12,p5,p12,p10,p12,p3,p16,p5,p16,p10,p16,p12,p16,p5,p10,p3,p5,p10,p3,p5,p12,p3,p5,p12,p12,p3,p10,p12,p5,p10,p12,p12,p5,p16,p3,p5,p16,p3,p10,p16,p5,p10,p16,p16,p3,p12,p16,p5,p12,p16,p10,p12,p16,p3,p5,p10,p12,p5,p10,p3,p5,p5,p12,p3,p12,p10,p12,p3,p5,p10,p12,p10,p12,p3,p12,p5,p12,p3,p5,p5,p10,p5,p16,p10,p16,p3,p5,p10,p16,p3,p16,p5,p16,p12,p16,p3,p5,p12,p16,p12,p16,p3,p10,p12,p16,p5,p10,p12,p16,p12,p16,p5,p16,p3,p5,p3,p10,p5,p10,p3,p12,p5,p12,p10,p12,p5,p12,p5,p10,p12,p3,p10,p12,p12,p3,p5,p12,p12,p5,p3,p3,p5,p10,p5,p5,p10,p16,p16,p3,p5,p16,p5,p12,p16,p3,p12,p16,p10,p12,p16,p3,p5,p10,p12,p16,p10,p12,p16,p3,p12,p16,p5,p12,p16,p3,p5,p16,p5,p10,p16,p5,p10,p3,p5,p10,p3,p5,p12,p3,p5,p12,p12,p3,p10,p12,p5,p10,p12,p12,p5,p10,p12,p5,p12,p3,p12,p5,p10,p3,p3,p5,p5,p16,p12,p16,p5,p10,p12,p16,p3,p10,p12,p16,p12,p16,p3,p5,p12,p16,p12,p16,p5,p16,p3,p3,p5,p10,p16,p5,p16,p5,p10,p3,p5,p5,p12,p3,p12,p10,p12,p3,p5,p10,p12,p10,p12,p3,p12,p5,p12,p3,p5,p5,p10,p12,p10,p5,p3,p10,p12,p16,p5,p12,p16,p3,p12,p16,p5,p10,p16,p3,p3,p5,p16,p5,p12,p5,p10,p12,p3,p10,p12,p12,p3,p5,p12,p12,p5,p3,p3,p5,p10,p5,p12,p16,p10,p5,p16,p3,p10,p12,p5,p12,p3,p12,p5,p10,p3,p3,p5,p16,p12,p10,p5,p3,p17,p18⟩) ?_
    refine T_seqk ?_
    obtain ⟨y4,hy4,h⟩:=call_ok h
    refine tR [iH 0 { frz:=[(11,4)] },iC 1 [] (list_Check_ok hy4)] [8,11,12] ?_
    refine tR [] [8,11,12,63] ?_
    refine tC h (fun hc h=>?_) fun hc h=>?_
    ·refine T_region [(0,{ take:=[0] })] [8,9] [.nilc 8 2 9 1,.nilc 8 3 48 34,.keep [8,9]] [(8,.box [dI 0,dI 0,oW1 [],oW2 []]),(9,dI y4)] [] 4 (by kernel_rfl) (trivial) ?_
     cases h
     refine T_ret (tqc [.frz (8,3),.frz (8,4),.keep [8,9]])
    ·refine T_skip (tS ?_)
     refine tR [] [8,9] ?_
     cases h
     refine T_ret (tq [8,9])
end Go.Vm.TopG
