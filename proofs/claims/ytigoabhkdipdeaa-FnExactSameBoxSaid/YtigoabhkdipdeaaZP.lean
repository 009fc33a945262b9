/- A part of the plain reading of Go's code: what a function's code comes to, by a plain function. No condition. -/
import Derived.Test.YtigoabhkdipdeaaZU
import Derived.Test.YtigoabhkdipdeaaZBH
namespace Go.Proofs.Ytigoabhkdipdeaa
open Go Go.Proofs.Ytigoabhkdipdeaa.AM
set_option maxRecDepth 100000
set_option linter.all false
/-! function 163: loop.example/g00664/laws.szPage -/
noncomputable def w_szPage (n : Nat) (a0 : (Int × Int × ByteArray × Unit)) (a1 : Int) : Option (Int) :=
  bif decide (IntKind.i64.wrap (a1 - Int.ofNat a0.2.2.1.size) < (0 : Int)) then (some ((-1 : Int))) else (some (IntKind.i64.wrap (a1 - Int.ofNat a0.2.2.1.size)))
noncomputable def c_w_szPage : Con UU.El := ⟨[.agg [.int .i64, .int .i64, .str], .c (.int .i64)], [.c (.int .i64)], fun n x => w_szPage n x.1 x.2.1⟩
noncomputable def L_w_szPage : Nat → Option (LoopC UU.El (AM.Os UU.El ([.c (.int .i64)] ++ bkSs [.agg [.int .i64, .int .i64, .str], .c (.int .i64)]))) := lk []
theorem k_w_szPage : ConOk Try.prog UU 163 c_w_szPage :=
  fun_ok (cs := []) (own := []) (N := 13) (ios := []) (pins := []) fits trivial Try.func163 (L := L_w_szPage) (by kernel_rfl) (by kernel_rfl) (by kernel_rfl)

/-! function 91: loop.example/g00664/laws.szPageS -/
noncomputable def w_szPageS_r0 (l0 : List S_Page → Int → Int → Option (Int)) (n : Nat) (e0 : List S_Page) (e1 : Int) (e5 : Int) : Option (Int) :=
  bif decide (e5 < Int.ofNat e0.length) then (bif decide ((0 : Int) ≤ e5) then (bif decide (e5 < Int.ofNat e0.length) then ((w_szPage n (((rd z_Page e0 e5.toNat).f0, (rd z_Page e0 e5.toNat).f1, (rd z_Page e0 e5.toNat).f2, ())) (e1)).bind fun t0 => (bif decide (t0 < (0 : Int)) then (some ((-1 : Int))) else ((l0 (e0) (t0) (IntKind.i64.wrap (e5 + (1 : Int))))))) else (none)) else (none)) else (some (e1))
noncomputable def w_szPageS_ls (n : Nat) : (List S_Page → Int → Int → Option (Int)) := Nat.rec (motive := fun _ => (List S_Page → Int → Int → Option (Int))) (fun _ _ _ => none) (fun n h => (fun e0 e1 e5 => w_szPageS_r0 (h) n e0 e1 e5)) n
noncomputable def w_szPageS_m (l0 : List S_Page → Int → Int → Option (Int)) (n : Nat) (a0 : List S_Page) (a1 : Int) : Option (Int) :=
  bif decide (IntKind.i64.wrap (a1 - Int.ofNat a0.length) < (0 : Int)) then (some ((-1 : Int))) else ((l0 (a0) (IntKind.i64.wrap (a1 - Int.ofNat a0.length)) ((0 : Int))))
noncomputable def w_szPageS (n : Nat) (a0 : List S_Page) (a1 : Int) : Option (Int) := w_szPageS_m ((w_szPageS_ls n)) n a0 a1
noncomputable def c_w_szPageS : Con UU.El := ⟨[.c (.row 157), .c (.int .i64)], [.c (.int .i64)], fun n x => w_szPageS n x.1 x.2.1⟩
noncomputable def L_w_szPageS : Nat → Option (LoopC UU.El (AM.Os UU.El ([.c (.int .i64)] ++ bkSs [.c (.row 157), .c (.int .i64)]))) := lk [(0, ⟨⟨[(0, .c (.row 157 false)), (1, .c (.int .i64)), (5, .c (.int .i64))], []⟩, fun n x => (w_szPageS_ls n) x.1.1 x.1.2.1 x.1.2.2.1⟩)]
theorem k_w_szPageS : ConOk Try.prog UU 91 c_w_szPageS :=
  fun_ok (cs := [(163, c_w_szPage)]) (own := []) (N := 27) (ios := []) (pins := []) fits ⟨k_w_szPage, trivial⟩ Try.func91 (L := L_w_szPageS) (by kernel_rfl) (by kernel_rfl) (by kernel_rfl)

/-! function 25: loop.example/g00664/laws.szMemory -/
noncomputable def w_szMemory (n : Nat) (a0 : (List S_Page × Unit)) (a1 : Int) : Option (Int) :=
  (w_szPageS n (a0.1) (a1)).bind fun t0 => (bif decide (t0 < (0 : Int)) then (some ((-1 : Int))) else (some (t0)))
noncomputable def c_w_szMemory : Con UU.El := ⟨[.agg [.row 157], .c (.int .i64)], [.c (.int .i64)], fun n x => w_szMemory n x.1 x.2.1⟩
noncomputable def L_w_szMemory : Nat → Option (LoopC UU.El (AM.Os UU.El ([.c (.int .i64)] ++ bkSs [.agg [.row 157], .c (.int .i64)]))) := lk []
theorem k_w_szMemory : ConOk Try.prog UU 25 c_w_szMemory :=
  fun_ok (cs := [(91, c_w_szPageS)]) (own := []) (N := 12) (ios := []) (pins := []) fits ⟨k_w_szPageS, trivial⟩ Try.func25 (L := L_w_szMemory) (by kernel_rfl) (by kernel_rfl) (by kernel_rfl)

/-! function 20: loop.example/g00664/laws.szBox -/
noncomputable def w_szBox (n : Nat) (a0 : (List Int × Int × Int × List S_Page × Int × Int × ByteArray × Int × ByteArray × Int × Int × Int × Int × Int × Int × Unit)) (a1 : Int) : Option (Int) :=
  (w_szMemory n ((a0.2.2.2.1, ())) (a1)).bind fun t0 => (bif decide (t0 < (0 : Int)) then (some ((-1 : Int))) else (bif decide (IntKind.i64.wrap (t0 - Int.ofNat a0.2.2.2.2.2.2.1.size) < (0 : Int)) then (some ((-1 : Int))) else (bif decide (IntKind.i64.wrap (IntKind.i64.wrap (t0 - Int.ofNat a0.2.2.2.2.2.2.1.size) - Int.ofNat a0.2.2.2.2.2.2.2.2.1.size) < (0 : Int)) then (some ((-1 : Int))) else (some (IntKind.i64.wrap (IntKind.i64.wrap (t0 - Int.ofNat a0.2.2.2.2.2.2.1.size) - Int.ofNat a0.2.2.2.2.2.2.2.2.1.size))))))
noncomputable def c_w_szBox : Con UU.El := ⟨[.agg [.arr 3 16, .int .i64, .int .i64, .row 157, .int .i64, .int .i64, .str, .int .i64, .str, .int .i64, .int .i64, .int .i64, .int .i64, .int .i64, .int .i64], .c (.int .i64)], [.c (.int .i64)], fun n x => w_szBox n x.1 x.2.1⟩
noncomputable def L_w_szBox : Nat → Option (LoopC UU.El (AM.Os UU.El ([.c (.int .i64)] ++ bkSs [.agg [.arr 3 16, .int .i64, .int .i64, .row 157, .int .i64, .int .i64, .str, .int .i64, .str, .int .i64, .int .i64, .int .i64, .int .i64, .int .i64, .int .i64], .c (.int .i64)]))) := lk []
theorem k_w_szBox : ConOk Try.prog UU 20 c_w_szBox :=
  fun_ok (cs := [(25, c_w_szMemory)]) (own := []) (N := 26) (ios := []) (pins := []) fits ⟨k_w_szMemory, trivial⟩ Try.func20 (L := L_w_szBox) (by kernel_rfl) (by kernel_rfl) (by kernel_rfl)

/-! function 158: loop.example/g00664/laws.toIntA16 -/
noncomputable def w_toIntA16_r0 (l0 : Int → List Int → List Int → List Int → Option ((List Int × Unit))) (n : Nat) (e4 : Int) (b0_0 : List Int) (b1_0 : List Int) (b2_0 : List Int) : Option ((List Int × Unit)) :=
  bif decide (e4 < (16 : Int)) then (bif decide ((0 : Int) ≤ e4) then (bif decide (e4 < Int.ofNat (16 : Nat)) then (bif decide ((0 : Int) ≤ e4) then (bif decide (e4 < Int.ofNat (16 : Nat)) then ((l0 (IntKind.i64.wrap (e4 + (1 : Int))) (b0_0) (b1_0) (b2_0.set e4.toNat (rd (0 : Int) b0_0 e4.toNat)))) else (none)) else (none)) else (none)) else (none)) else (some ((b2_0, ())))
noncomputable def w_toIntA16_ls (n : Nat) : (Int → List Int → List Int → List Int → Option ((List Int × Unit))) := Nat.rec (motive := fun _ => (Int → List Int → List Int → List Int → Option ((List Int × Unit)))) (fun _ _ _ _ => none) (fun n h => (fun e4 b0_0 b1_0 b2_0 => w_toIntA16_r0 (h) n e4 b0_0 b1_0 b2_0)) n
noncomputable def w_toIntA16_m (l0 : Int → List Int → List Int → List Int → Option ((List Int × Unit))) (n : Nat) (a0 : (List Int × Unit)) : Option ((List Int × Unit)) :=
  (l0 ((0 : Int)) (a0.1) (List.replicate (16 : Nat) (0 : Int)) (List.replicate (16 : Nat) (0 : Int)))
noncomputable def w_toIntA16 (n : Nat) (a0 : (List Int × Unit)) : Option ((List Int × Unit)) := w_toIntA16_m ((w_toIntA16_ls n)) n a0
noncomputable def c_w_toIntA16 : Con UU.El := ⟨[.agg [.arr 3 16]], [.agg [.arr 3 16]], fun n x => w_toIntA16 n x.1⟩
noncomputable def L_w_toIntA16 : Nat → Option (LoopC UU.El (AM.Os UU.El ([.agg [.arr 3 16]] ++ bkSs [.agg [.arr 3 16]]))) := lk [(0, ⟨⟨[(1, .c (.ptr 0 0)), (2, .c (.ptr 1 0)), (3, .c (.ptr 2 0)), (4, .c (.int .i64))], [.st 32 [.arr 3 16], .st 32 [.arr 3 16], .st 32 [.arr 3 16]]⟩, fun n x => (w_toIntA16_ls n) x.1.2.2.2.1 x.2.1.1 x.2.2.1.1 x.2.2.2.1.1⟩)]
theorem k_w_toIntA16 : ConOk Try.prog UU 158 c_w_toIntA16 :=
  fun_ok (cs := []) (own := []) (N := 15) (ios := []) (pins := []) fits trivial Try.func158 (L := L_w_toIntA16) (by kernel_rfl) (by kernel_rfl) (by kernel_rfl)

/-! function 83: loop.example/g00664/laws.toCpu -/
noncomputable def w_toCpu (n : Nat) (a0 : (List Int × Int × Int × Unit)) : Option ((List Int × Int × Int × Unit)) :=
  (w_toIntA16 n ((a0.1, ()))).bind fun t0 => (some ((t0.1, a0.2)))
noncomputable def c_w_toCpu : Con UU.El := ⟨[.agg [.arr 3 16, .int .i64, .int .i64]], [.agg [.arr 3 16, .int .i64, .int .i64]], fun n x => w_toCpu n x.1⟩
noncomputable def L_w_toCpu : Nat → Option (LoopC UU.El (AM.Os UU.El ([.agg [.arr 3 16, .int .i64, .int .i64]] ++ bkSs [.agg [.arr 3 16, .int .i64, .int .i64]]))) := lk []
theorem k_w_toCpu : ConOk Try.prog UU 83 c_w_toCpu :=
  fun_ok (cs := [(158, c_w_toIntA16)]) (own := []) (N := 15) (ios := []) (pins := []) fits ⟨k_w_toIntA16, trivial⟩ Try.func83 (L := L_w_toCpu) (by kernel_rfl) (by kernel_rfl) (by kernel_rfl)

/-! function 166: loop.example/g00664/laws.toPage -/
noncomputable def w_toPage (n : Nat) (a0 : (Int × Int × ByteArray × Unit)) : Option ((Int × Int × ByteArray × Unit)) :=
  some (a0)
noncomputable def c_w_toPage : Con UU.El := ⟨[.agg [.int .i64, .int .i64, .str]], [.agg [.int .i64, .int .i64, .str]], fun n x => w_toPage n x.1⟩
noncomputable def L_w_toPage : Nat → Option (LoopC UU.El (AM.Os UU.El ([.agg [.int .i64, .int .i64, .str]] ++ bkSs [.agg [.int .i64, .int .i64, .str]]))) := lk []
theorem k_w_toPage : ConOk Try.prog UU 166 c_w_toPage :=
  fun_ok (cs := []) (own := []) (N := 14) (ios := []) (pins := []) fits trivial Try.func166 (L := L_w_toPage) (by kernel_rfl) (by kernel_rfl) (by kernel_rfl)

/-! function 95: loop.example/g00664/laws.toPageS -/
noncomputable def w_toPageS_r0 (l0 : List S_Page → Int → List S_Page → Option (List S_Page)) (n : Nat) (e0 : List S_Page) (e4 : Int) (b0 : List S_Page) : Option (List S_Page) :=
  bif decide (e4 < Int.ofNat e0.length) then (bif decide ((0 : Int) ≤ e4) then (bif decide (e4 < Int.ofNat e0.length) then ((w_toPage n (((rd z_Page e0 e4.toNat).f0, (rd z_Page e0 e4.toNat).f1, (rd z_Page e0 e4.toNat).f2, ()))).bind fun t0 => (bif decide ((0 : Int) ≤ e4) then (bif decide (e4 < Int.ofNat b0.length) then ((l0 (e0) (IntKind.i64.wrap (e4 + (1 : Int))) (b0.set e4.toNat (S_Page.mk t0.1 t0.2.1 t0.2.2.1)))) else (none)) else (none))) else (none)) else (none)) else (some (b0))
noncomputable def w_toPageS_ls (n : Nat) : (List S_Page → Int → List S_Page → Option (List S_Page)) := Nat.rec (motive := fun _ => (List S_Page → Int → List S_Page → Option (List S_Page))) (fun _ _ _ => none) (fun n h => (fun e0 e4 b0 => w_toPageS_r0 (h) n e0 e4 b0)) n
noncomputable def w_toPageS_m (l0 : List S_Page → Int → List S_Page → Option (List S_Page)) (n : Nat) (a0 : List S_Page) : Option (List S_Page) :=
  bif decide (Int.ofNat a0.length ≤ Int.ofNat a0.length) then (bif decide (Int.ofNat (32 : Nat) * Int.ofNat a0.length ≤ (140737488355328 : Int)) then ((l0 (a0) ((0 : Int)) (List.replicate (Int.ofNat a0.length).toNat z_Page))) else (none)) else (none)
noncomputable def w_toPageS (n : Nat) (a0 : List S_Page) : Option (List S_Page) := w_toPageS_m ((w_toPageS_ls n)) n a0
noncomputable def c_w_toPageS : Con UU.El := ⟨[.c (.row 157)], [.c (.sl 153)], fun n x => w_toPageS n x.1⟩
noncomputable def L_w_toPageS : Nat → Option (LoopC UU.El (AM.Os UU.El ([.c (.sl 153)] ++ bkSs [.c (.row 157)]))) := lk [(0, ⟨⟨[(0, .c (.row 157 false)), (3, .c (.sl 0)), (4, .c (.int .i64))], [.da 153]⟩, fun n x => (w_toPageS_ls n) x.1.1 x.1.2.2.1 x.2.1⟩)]
theorem k_w_toPageS : ConOk Try.prog UU 95 c_w_toPageS :=
  fun_ok (cs := [(166, c_w_toPage)]) (own := [7]) (N := 23) (ios := []) (pins := []) fits ⟨k_w_toPage, trivial⟩ Try.func95 (L := L_w_toPageS) (by kernel_rfl) (by kernel_rfl) (by kernel_rfl)

/-! function 27: loop.example/g00664/laws.toMemory -/
noncomputable def w_toMemory (n : Nat) (a0 : (List S_Page × Unit)) : Option ((List S_Page × Unit)) :=
  (w_toPageS n (a0.1)).bind fun t0 => (some ((t0, ())))
noncomputable def c_w_toMemory : Con UU.El := ⟨[.agg [.row 157]], [.agg [.sl 153]], fun n x => w_toMemory n x.1⟩
noncomputable def L_w_toMemory : Nat → Option (LoopC UU.El (AM.Os UU.El ([.agg [.sl 153]] ++ bkSs [.agg [.row 157]]))) := lk []
theorem k_w_toMemory : ConOk Try.prog UU 27 c_w_toMemory :=
  fun_ok (cs := [(95, c_w_toPageS)]) (own := [6]) (N := 9) (ios := []) (pins := []) fits ⟨k_w_toPageS, trivial⟩ Try.func27 (L := L_w_toMemory) (by kernel_rfl) (by kernel_rfl) (by kernel_rfl)

/-! function 22: loop.example/g00664/laws.toBox -/
noncomputable def w_toBox (n : Nat) (a0 : (List Int × Int × Int × List S_Page × Int × Int × ByteArray × Int × ByteArray × Int × Int × Int × Int × Int × Int × Unit)) : Option ((List Int × Int × Int × List S_Page × Int × Int × ByteArray × Int × ByteArray × Int × Int × Int × Int × Int × Int × Unit)) :=
  (w_toCpu n ((a0.1, a0.2.1, a0.2.2.1, ()))).bind fun t0 => ((w_toMemory n ((a0.2.2.2.1, ()))).bind fun t1 => (some ((t0.1, t0.2.1, t0.2.2.1, t1.1, a0.2.2.2.2))))
noncomputable def c_w_toBox : Con UU.El := ⟨[.agg [.arr 3 16, .int .i64, .int .i64, .row 157, .int .i64, .int .i64, .str, .int .i64, .str, .int .i64, .int .i64, .int .i64, .int .i64, .int .i64, .int .i64]], [.agg [.arr 3 16, .int .i64, .int .i64, .sl 153, .int .i64, .int .i64, .str, .int .i64, .str, .int .i64, .int .i64, .int .i64, .int .i64, .int .i64, .int .i64]], fun n x => w_toBox n x.1⟩
noncomputable def L_w_toBox : Nat → Option (LoopC UU.El (AM.Os UU.El ([.agg [.arr 3 16, .int .i64, .int .i64, .sl 153, .int .i64, .int .i64, .str, .int .i64, .str, .int .i64, .int .i64, .int .i64, .int .i64, .int .i64, .int .i64]] ++ bkSs [.agg [.arr 3 16, .int .i64, .int .i64, .row 157, .int .i64, .int .i64, .str, .int .i64, .str, .int .i64, .int .i64, .int .i64, .int .i64, .int .i64, .int .i64]]))) := lk []
theorem k_w_toBox : ConOk Try.prog UU 22 c_w_toBox :=
  fun_ok (cs := [(83, c_w_toCpu), (27, c_w_toMemory)]) (own := [10]) (N := 46) (ios := []) (pins := []) fits ⟨k_w_toCpu, ⟨k_w_toMemory, trivial⟩⟩ Try.func22 (L := L_w_toBox) (by kernel_rfl) (by kernel_rfl) (by kernel_rfl)

/-! function 140: loop.example/g00664/spec.l06Flags -/
noncomputable def s_l06Flags (n : Nat) (a0 : Int) : Option (Bool) :=
  bif decide (a0 ≥ (0 : Int)) then (some (ibits BinOp.and IntKind.i64 a0 (2245 : Int) == a0)) else (some (false))
noncomputable def c_s_l06Flags : Con UU.El := ⟨[.c (.int .i64)], [.c (.bool)], fun n x => s_l06Flags n x.1⟩
noncomputable def L_s_l06Flags : Nat → Option (LoopC UU.El (AM.Os UU.El ([.c (.bool)] ++ bkSs [.c (.int .i64)]))) := lk []
theorem k_s_l06Flags : ConOk Try.prog UU 140 c_s_l06Flags :=
  fun_ok (cs := []) (own := []) (N := 11) (ios := []) (pins := []) fits trivial Try.func140 (L := L_s_l06Flags) (by kernel_rfl) (by kernel_rfl) (by kernel_rfl)

/-! function 79: loop.example/g00664/spec.CpuOK -/
noncomputable def s_CpuOK (n : Nat) (a0 : (List Int × Int × Int × Unit)) : Option (Bool) :=
  (s_l06Flags n (a0.2.2.1)).bind fun t0 => (some (t0))
noncomputable def c_s_CpuOK : Con UU.El := ⟨[.agg [.arr 3 16, .int .i64, .int .i64]], [.c (.bool)], fun n x => s_CpuOK n x.1⟩
noncomputable def L_s_CpuOK : Nat → Option (LoopC UU.El (AM.Os UU.El ([.c (.bool)] ++ bkSs [.agg [.arr 3 16, .int .i64, .int .i64]]))) := lk []
theorem k_s_CpuOK : ConOk Try.prog UU 79 c_s_CpuOK :=
  fun_ok (cs := [(140, c_s_l06Flags)]) (own := []) (N := 6) (ios := []) (pins := []) fits ⟨k_s_l06Flags, trivial⟩ Try.func79 (L := L_s_CpuOK) (by kernel_rfl) (by kernel_rfl) (by kernel_rfl)

/-! function 81: loop.example/g00664/spec.l01In -/
noncomputable def s_l01In (n : Nat) (a0 : Int) (a1 : Int) (a2 : Int) : Option (Bool) :=
  bif decide (a0 ≥ a1) then (some (decide (a0 ≤ a2))) else (some (false))
noncomputable def c_s_l01In : Con UU.El := ⟨[.c (.int .i64), .c (.int .i64), .c (.int .i64)], [.c (.bool)], fun n x => s_l01In n x.1 x.2.1 x.2.2.1⟩
noncomputable def L_s_l01In : Nat → Option (LoopC UU.El (AM.Os UU.El ([.c (.bool)] ++ bkSs [.c (.int .i64), .c (.int .i64), .c (.int .i64)]))) := lk []
theorem k_s_l01In : ConOk Try.prog UU 81 c_s_l01In :=
  fun_ok (cs := []) (own := []) (N := 15) (ios := []) (pins := []) fits trivial Try.func81 (L := L_s_l01In) (by kernel_rfl) (by kernel_rfl) (by kernel_rfl)

/-! function 155: loop.example/g00664/spec.l02Base -/
noncomputable def s_l02Base (n : Nat) (a0 : Int) : Option (Bool) :=
  (s_l01In n (a0) ((0 : Int)) ((65535 : Int))).bind fun t0 => (bif t0 then (some (a0.tmod (256 : Int) == (0 : Int))) else (some (false)))
noncomputable def c_s_l02Base : Con UU.El := ⟨[.c (.int .i64)], [.c (.bool)], fun n x => s_l02Base n x.1⟩
noncomputable def L_s_l02Base : Nat → Option (LoopC UU.El (AM.Os UU.El ([.c (.bool)] ++ bkSs [.c (.int .i64)]))) := lk []
theorem k_s_l02Base : ConOk Try.prog UU 155 c_s_l02Base :=
  fun_ok (cs := [(81, c_s_l01In)]) (own := []) (N := 10) (ios := []) (pins := []) fits ⟨k_s_l01In, trivial⟩ Try.func155 (L := L_s_l02Base) (by kernel_rfl) (by kernel_rfl) (by kernel_rfl)

/-! function 156: loop.example/g00664/spec.l02Perm -/
noncomputable def s_l02Perm (n : Nat) (a0 : Int) : Option (Bool) :=
  (s_l01In n (a0) ((0 : Int)) ((7 : Int))).bind fun t0 => (some (t0))
noncomputable def c_s_l02Perm : Con UU.El := ⟨[.c (.int .i64)], [.c (.bool)], fun n x => s_l02Perm n x.1⟩
noncomputable def L_s_l02Perm : Nat → Option (LoopC UU.El (AM.Os UU.El ([.c (.bool)] ++ bkSs [.c (.int .i64)]))) := lk []
theorem k_s_l02Perm : ConOk Try.prog UU 156 c_s_l02Perm :=
  fun_ok (cs := [(81, c_s_l01In)]) (own := []) (N := 5) (ios := []) (pins := []) fits ⟨k_s_l01In, trivial⟩ Try.func156 (L := L_s_l02Perm) (by kernel_rfl) (by kernel_rfl) (by kernel_rfl)

/-! function 80: loop.example/g00664/spec.MemoryOK -/
noncomputable def s_MemoryOK_r0 (l0 : Int → List S_Page → Option (Bool)) (n : Nat) (e3 : Int) (b0_0 : List S_Page) : Option (Bool) :=
  bif decide (e3 < Int.ofNat b0_0.length) then (bif decide ((0 : Int) ≤ e3) then (bif decide (e3 < Int.ofNat b0_0.length) then ((s_l02Base n ((rd z_Page b0_0 e3.toNat).f0)).bind fun t0 => (bif !t0 then (some (false)) else ((s_l02Perm n ((rd z_Page b0_0 e3.toNat).f1)).bind fun t1 => (bif !t1 then (some (false)) else (bif Int.ofNat (rd z_Page b0_0 e3.toNat).f2.size != (256 : Int) then (some (false)) else (bif decide (e3 > (0 : Int)) then (bif decide ((0 : Int) ≤ IntKind.i64.wrap (e3 - (1 : Int))) then (bif decide (IntKind.i64.wrap (e3 - (1 : Int)) < Int.ofNat b0_0.length) then (bif decide ((rd z_Page b0_0 e3.toNat).f0 ≤ (rd z_Page b0_0 (IntKind.i64.wrap (e3 - (1 : Int))).toNat).f0) then (some (false)) else ((l0 (IntKind.i64.wrap (e3 + (1 : Int))) (b0_0)))) else (none)) else (none)) else ((l0 (IntKind.i64.wrap (e3 + (1 : Int))) (b0_0))))))))) else (none)) else (none)) else (some (true))
noncomputable def s_MemoryOK_ls (n : Nat) : (Int → List S_Page → Option (Bool)) := Nat.rec (motive := fun _ => (Int → List S_Page → Option (Bool))) (fun _ _ => none) (fun n h => (fun e3 b0_0 => s_MemoryOK_r0 (h) n e3 b0_0)) n
noncomputable def s_MemoryOK_m (l0 : Int → List S_Page → Option (Bool)) (n : Nat) (a0 : (List S_Page × Unit)) : Option (Bool) :=
  bif decide (Int.ofNat a0.1.length > (32 : Int)) then (some (false)) else ((l0 ((0 : Int)) (a0.1)))
noncomputable def s_MemoryOK (n : Nat) (a0 : (List S_Page × Unit)) : Option (Bool) := s_MemoryOK_m ((s_MemoryOK_ls n)) n a0
noncomputable def c_s_MemoryOK : Con UU.El := ⟨[.agg [.row 153]], [.c (.bool)], fun n x => s_MemoryOK n x.1⟩
noncomputable def L_s_MemoryOK : Nat → Option (LoopC UU.El (AM.Os UU.El ([.c (.bool)] ++ bkSs [.agg [.row 153]]))) := lk [(0, ⟨⟨[(1, .c (.ptr 0 0)), (3, .c (.int .i64))], [.st 45 [.row 153 false]]⟩, fun n x => (s_MemoryOK_ls n) x.1.2.1 x.2.1.1⟩)]
theorem k_s_MemoryOK : ConOk Try.prog UU 80 c_s_MemoryOK :=
  fun_ok (cs := [(155, c_s_l02Base), (156, c_s_l02Perm)]) (own := []) (N := 53) (ios := []) (pins := []) fits ⟨k_s_l02Base, ⟨k_s_l02Perm, trivial⟩⟩ Try.func80 (L := L_s_MemoryOK) (by kernel_rfl) (by kernel_rfl) (by kernel_rfl)

/-! function 157: loop.example/g00664/spec.l01Bit -/
noncomputable def s_l01Bit (n : Nat) (a0 : Int) (a1 : Int) : Option (Int) :=
  bif decide (IntKind.u64.wrap a1 < (0 : Int)) then (none) else (bif ((IntKind.u64.wrap a0).fdiv ((2 : Int) ^ min (IntKind.u64.wrap a1).toNat IntKind.u64.bits)).tmod (2 : Int) == (1 : Int) then (some ((1 : Int))) else (some ((0 : Int))))
noncomputable def c_s_l01Bit : Con UU.El := ⟨[.c (.int .i64), .c (.int .i64)], [.c (.int .i64)], fun n x => s_l01Bit n x.1 x.2.1⟩
noncomputable def L_s_l01Bit : Nat → Option (LoopC UU.El (AM.Os UU.El ([.c (.int .i64)] ++ bkSs [.c (.int .i64), .c (.int .i64)]))) := lk []
theorem k_s_l01Bit : ConOk Try.prog UU 157 c_s_l01Bit :=
  fun_ok (cs := []) (own := []) (N := 12) (ios := []) (pins := []) fits trivial Try.func157 (L := L_s_l01Bit) (by kernel_rfl) (by kernel_rfl) (by kernel_rfl)

/-! function 82: loop.example/g00664/spec.l01Sign -/
noncomputable def s_l01Sign_r0 (l0 : Int → Int → Int → Int → Option (Int)) (n : Nat) (e0 : Int) (e1 : Int) (e5 : Int) (e6 : Int) : Option (Int) :=
  bif decide (e6 ≥ (0 : Int)) then ((s_l01Bit n (e0) (if true = true then min e6 (IntKind.i64.wrap (IntKind.i64.wrap ((8 : Int) * e1) - (1 : Int))) else max e6 (IntKind.i64.wrap (IntKind.i64.wrap ((8 : Int) * e1) - (1 : Int))))).bind fun t0 => ((l0 (e0) (e1) (IntKind.u64.wrap (IntKind.u64.wrap ((2 : Int) * e5) + IntKind.u64.wrap t0)) (IntKind.i64.wrap (e6 - (1 : Int)))))) else (some (IntKind.i64.wrap e5))
noncomputable def s_l01Sign_ls (n : Nat) : (Int → Int → Int → Int → Option (Int)) := Nat.rec (motive := fun _ => (Int → Int → Int → Int → Option (Int))) (fun _ _ _ _ => none) (fun n h => (fun e0 e1 e5 e6 => s_l01Sign_r0 (h) n e0 e1 e5 e6)) n
noncomputable def s_l01Sign_m (l0 : Int → Int → Int → Int → Option (Int)) (n : Nat) (a0 : Int) (a1 : Int) : Option (Int) :=
  (l0 (a0) (a1) ((0 : Int)) ((63 : Int)))
noncomputable def s_l01Sign (n : Nat) (a0 : Int) (a1 : Int) : Option (Int) := s_l01Sign_m ((s_l01Sign_ls n)) n a0 a1
noncomputable def c_s_l01Sign : Con UU.El := ⟨[.c (.int .i64), .c (.int .i64)], [.c (.int .i64)], fun n x => s_l01Sign n x.1 x.2.1⟩
noncomputable def L_s_l01Sign : Nat → Option (LoopC UU.El (AM.Os UU.El ([.c (.int .i64)] ++ bkSs [.c (.int .i64), .c (.int .i64)]))) := lk [(0, ⟨⟨[(0, .c (.int .i64)), (1, .c (.int .i64)), (5, .c (.int .u64)), (6, .c (.int .i64))], []⟩, fun n x => (s_l01Sign_ls n) x.1.1 x.1.2.1 x.1.2.2.1 x.1.2.2.2.1⟩)]
theorem k_s_l01Sign : ConOk Try.prog UU 82 c_s_l01Sign :=
  fun_ok (cs := [(157, c_s_l01Bit)]) (own := []) (N := 24) (ios := []) (pins := []) fits ⟨k_s_l01Bit, trivial⟩ Try.func82 (L := L_s_l01Sign) (by kernel_rfl) (by kernel_rfl) (by kernel_rfl)

/-! function 21: loop.example/g00664/spec.BoxOK -/
noncomputable def s_BoxOK (n : Nat) (a0 : (List Int × Int × Int × List S_Page × Int × Int × ByteArray × Int × ByteArray × Int × Int × Int × Int × Int × Int × Unit)) : Option (Bool) :=
  (s_CpuOK n ((a0.1, a0.2.1, a0.2.2.1, ()))).bind fun t0 => (bif !t0 then (some (false)) else ((s_MemoryOK n ((a0.2.2.2.1, ()))).bind fun t1 => (bif !t1 then (some (false)) else ((s_l01In n (a0.2.2.2.2.1) ((512 : Int)) ((3584 : Int))).bind fun t2 => (bif !t2 then (some (false)) else ((s_l01In n (a0.2.2.2.2.2.1) (a0.2.2.2.2.1) ((3584 : Int))).bind fun t3 => (bif !t3 then (some (false)) else (bif decide (Int.ofNat a0.2.2.2.2.2.2.1.size > (1024 : Int)) then (some (false)) else ((s_l01In n (a0.2.2.2.2.2.2.2.1) ((0 : Int)) (Int.ofNat a0.2.2.2.2.2.2.1.size)).bind fun t4 => (bif !t4 then (some (false)) else (bif decide (Int.ofNat a0.2.2.2.2.2.2.2.2.1.size > (512 : Int)) then (some (false)) else ((s_l01In n (a0.2.2.2.2.2.2.2.2.2.1) ((0 : Int)) ((1000000 : Int))).bind fun t5 => (bif !t5 then (some (false)) else ((s_l01In n (a0.2.2.2.2.2.2.2.2.2.2.1) ((0 : Int)) ((2147483647 : Int))).bind fun t6 => (bif !t6 then (some (false)) else ((s_l01In n (a0.2.2.2.2.2.2.2.2.2.2.2.1) ((1 : Int)) ((3 : Int))).bind fun t7 => (bif !t7 then (some (false)) else (bif a0.2.2.2.2.2.2.2.2.2.2.2.1 != (2 : Int) then (bif a0.2.2.2.2.2.2.2.2.2.2.2.2.1 != (0 : Int) then (some (false)) else ((s_l01Sign n (a0.2.2.2.2.2.2.2.2.2.2.2.2.1) ((4 : Int))).bind fun t8 => (bif t8 != a0.2.2.2.2.2.2.2.2.2.2.2.2.1 then (some (false)) else (bif a0.2.2.2.2.2.2.2.2.2.2.2.1 != (3 : Int) then (bif a0.2.2.2.2.2.2.2.2.2.2.2.2.2.1 == (0 : Int) then (some (a0.2.2.2.2.2.2.2.2.2.2.2.2.2.2.1 == (0 : Int))) else (some (false))) else ((s_l01In n (a0.2.2.2.2.2.2.2.2.2.2.2.2.2.1) ((1 : Int)) ((35 : Int))).bind fun t9 => (some (t9))))))) else ((s_l01Sign n (a0.2.2.2.2.2.2.2.2.2.2.2.2.1) ((4 : Int))).bind fun t8 => (bif t8 != a0.2.2.2.2.2.2.2.2.2.2.2.2.1 then (some (false)) else (bif a0.2.2.2.2.2.2.2.2.2.2.2.1 != (3 : Int) then (bif a0.2.2.2.2.2.2.2.2.2.2.2.2.2.1 == (0 : Int) then (some (a0.2.2.2.2.2.2.2.2.2.2.2.2.2.2.1 == (0 : Int))) else (some (false))) else ((s_l01In n (a0.2.2.2.2.2.2.2.2.2.2.2.2.2.1) ((1 : Int)) ((35 : Int))).bind fun t9 => (some (t9))))))))))))))))))))))))
noncomputable def c_s_BoxOK : Con UU.El := ⟨[.agg [.arr 3 16, .int .i64, .int .i64, .row 153, .int .i64, .int .i64, .str, .int .i64, .str, .int .i64, .int .i64, .int .i64, .int .i64, .int .i64, .int .i64]], [.c (.bool)], fun n x => s_BoxOK n x.1⟩
noncomputable def L_s_BoxOK : Nat → Option (LoopC UU.El (AM.Os UU.El ([.c (.bool)] ++ bkSs [.agg [.arr 3 16, .int .i64, .int .i64, .row 153, .int .i64, .int .i64, .str, .int .i64, .str, .int .i64, .int .i64, .int .i64, .int .i64, .int .i64, .int .i64]]))) := lk []
theorem k_s_BoxOK : ConOk Try.prog UU 21 c_s_BoxOK :=
  fun_ok (cs := [(79, c_s_CpuOK), (80, c_s_MemoryOK), (81, c_s_l01In), (82, c_s_l01Sign)]) (own := []) (N := 96) (ios := []) (pins := []) fits ⟨k_s_CpuOK, ⟨k_s_MemoryOK, ⟨k_s_l01In, ⟨k_s_l01Sign, trivial⟩⟩⟩⟩ Try.func21 (L := L_s_BoxOK) (by kernel_rfl) (by kernel_rfl) (by kernel_rfl)

/-! function 142: loop.example/g00664/impl.areFlags -/
noncomputable def i_areFlags (n : Nat) (a0 : Int) : Option (Bool) :=
  some (ibits BinOp.andNot IntKind.i64 a0 (2245 : Int) == (0 : Int))
noncomputable def c_i_areFlags : Con UU.El := ⟨[.c (.int .i64)], [.c (.bool)], fun n x => i_areFlags n x.1⟩
noncomputable def L_i_areFlags : Nat → Option (LoopC UU.El (AM.Os UU.El ([.c (.bool)] ++ bkSs [.c (.int .i64)]))) := lk []
theorem k_i_areFlags : ConOk Try.prog UU 142 c_i_areFlags :=
  fun_ok (cs := []) (own := []) (N := 6) (ios := []) (pins := []) fits trivial Try.func142 (L := L_i_areFlags) (by kernel_rfl) (by kernel_rfl) (by kernel_rfl)

/-! function 84: loop.example/g00664/impl.CpuOK -/
noncomputable def i_CpuOK (n : Nat) (a0 : (List Int × Int × Int × Unit)) : Option (Bool) :=
  (i_areFlags n (a0.2.2.1)).bind fun t0 => (some (t0))
noncomputable def c_i_CpuOK : Con UU.El := ⟨[.agg [.arr 3 16, .int .i64, .int .i64]], [.c (.bool)], fun n x => i_CpuOK n x.1⟩
noncomputable def L_i_CpuOK : Nat → Option (LoopC UU.El (AM.Os UU.El ([.c (.bool)] ++ bkSs [.agg [.arr 3 16, .int .i64, .int .i64]]))) := lk []
theorem k_i_CpuOK : ConOk Try.prog UU 84 c_i_CpuOK :=
  fun_ok (cs := [(142, c_i_areFlags)]) (own := []) (N := 6) (ios := []) (pins := []) fits ⟨k_i_areFlags, trivial⟩ Try.func84 (L := L_i_CpuOK) (by kernel_rfl) (by kernel_rfl) (by kernel_rfl)

/-! function 87: loop.example/g00664/impl.within -/
noncomputable def i_within (n : Nat) (a0 : Int) (a1 : Int) (a2 : Int) : Option (Bool) :=
  bif decide (a0 ≥ a1) then (some (decide (a0 ≤ a2))) else (some (false))
noncomputable def c_i_within : Con UU.El := ⟨[.c (.int .i64), .c (.int .i64), .c (.int .i64)], [.c (.bool)], fun n x => i_within n x.1 x.2.1 x.2.2.1⟩
noncomputable def L_i_within : Nat → Option (LoopC UU.El (AM.Os UU.El ([.c (.bool)] ++ bkSs [.c (.int .i64), .c (.int .i64), .c (.int .i64)]))) := lk []
theorem k_i_within : ConOk Try.prog UU 87 c_i_within :=
  fun_ok (cs := []) (own := []) (N := 15) (ios := []) (pins := []) fits trivial Try.func87 (L := L_i_within) (by kernel_rfl) (by kernel_rfl) (by kernel_rfl)

/-! function 159: loop.example/g00664/impl.isBase -/
noncomputable def i_isBase (n : Nat) (a0 : Int) : Option (Bool) :=
  (i_within n (a0) ((0 : Int)) ((65535 : Int))).bind fun t0 => (bif t0 then (some (a0.tmod (256 : Int) == (0 : Int))) else (some (false)))
noncomputable def c_i_isBase : Con UU.El := ⟨[.c (.int .i64)], [.c (.bool)], fun n x => i_isBase n x.1⟩
noncomputable def L_i_isBase : Nat → Option (LoopC UU.El (AM.Os UU.El ([.c (.bool)] ++ bkSs [.c (.int .i64)]))) := lk []
theorem k_i_isBase : ConOk Try.prog UU 159 c_i_isBase :=
  fun_ok (cs := [(87, c_i_within)]) (own := []) (N := 10) (ios := []) (pins := []) fits ⟨k_i_within, trivial⟩ Try.func159 (L := L_i_isBase) (by kernel_rfl) (by kernel_rfl) (by kernel_rfl)

/-! function 160: loop.example/g00664/impl.isPerm -/
noncomputable def i_isPerm (n : Nat) (a0 : Int) : Option (Bool) :=
  (i_within n (a0) ((0 : Int)) ((7 : Int))).bind fun t0 => (some (t0))
noncomputable def c_i_isPerm : Con UU.El := ⟨[.c (.int .i64)], [.c (.bool)], fun n x => i_isPerm n x.1⟩
noncomputable def L_i_isPerm : Nat → Option (LoopC UU.El (AM.Os UU.El ([.c (.bool)] ++ bkSs [.c (.int .i64)]))) := lk []
theorem k_i_isPerm : ConOk Try.prog UU 160 c_i_isPerm :=
  fun_ok (cs := [(87, c_i_within)]) (own := []) (N := 5) (ios := []) (pins := []) fits ⟨k_i_within, trivial⟩ Try.func160 (L := L_i_isPerm) (by kernel_rfl) (by kernel_rfl) (by kernel_rfl)

/-! function 85: loop.example/g00664/impl.MemoryOK -/
noncomputable def i_MemoryOK_r0 (l0 : List S_Page → Int → Int → List S_Page → Option (Bool)) (n : Nat) (e6 : List S_Page) (e7 : Int) (e8 : Int) (b0_0 : List S_Page) : Option (Bool) :=
  bif decide (e8 < e7) then (bif decide ((0 : Int) ≤ e8) then (bif decide (e8 < Int.ofNat e6.length) then ((i_isBase n ((rd z_Page e6 e8.toNat).f0)).bind fun t0 => (bif !t0 then (some (false)) else ((i_isPerm n ((rd z_Page e6 e8.toNat).f1)).bind fun t1 => (bif !t1 then (some (false)) else (bif Int.ofNat (rd z_Page e6 e8.toNat).f2.size != (256 : Int) then (some (false)) else (bif decide (e8 > (0 : Int)) then (bif decide ((0 : Int) ≤ IntKind.i64.wrap (e8 - (1 : Int))) then (bif decide (IntKind.i64.wrap (e8 - (1 : Int)) < Int.ofNat b0_0.length) then (bif decide ((rd z_Page e6 e8.toNat).f0 ≤ (rd z_Page b0_0 (IntKind.i64.wrap (e8 - (1 : Int))).toNat).f0) then (some (false)) else ((l0 (e6) (e7) (IntKind.i64.wrap (e8 + (1 : Int))) (b0_0)))) else (none)) else (none)) else ((l0 (e6) (e7) (IntKind.i64.wrap (e8 + (1 : Int))) (b0_0))))))))) else (none)) else (none)) else (some (decide (Int.ofNat b0_0.length ≤ (32 : Int))))
noncomputable def i_MemoryOK_ls (n : Nat) : (List S_Page → Int → Int → List S_Page → Option (Bool)) := Nat.rec (motive := fun _ => (List S_Page → Int → Int → List S_Page → Option (Bool))) (fun _ _ _ _ => none) (fun n h => (fun e6 e7 e8 b0_0 => i_MemoryOK_r0 (h) n e6 e7 e8 b0_0)) n
noncomputable def i_MemoryOK_m (l0 : List S_Page → Int → Int → List S_Page → Option (Bool)) (n : Nat) (a0 : (List S_Page × Unit)) : Option (Bool) :=
  (l0 (a0.1) (Int.ofNat a0.1.length) ((0 : Int)) (a0.1))
noncomputable def i_MemoryOK (n : Nat) (a0 : (List S_Page × Unit)) : Option (Bool) := i_MemoryOK_m ((i_MemoryOK_ls n)) n a0
noncomputable def c_i_MemoryOK : Con UU.El := ⟨[.agg [.row 153]], [.c (.bool)], fun n x => i_MemoryOK n x.1⟩
noncomputable def L_i_MemoryOK : Nat → Option (LoopC UU.El (AM.Os UU.El ([.c (.bool)] ++ bkSs [.agg [.row 153]]))) := lk [(0, ⟨⟨[(1, .c (.ptr 0 0)), (6, .c (.row 153 false)), (7, .c (.int .i64)), (8, .c (.int .i64))], [.st 45 [.row 153 false]]⟩, fun n x => (i_MemoryOK_ls n) x.1.2.1 x.1.2.2.1 x.1.2.2.2.1 x.2.1.1⟩)]
theorem k_i_MemoryOK : ConOk Try.prog UU 85 c_i_MemoryOK :=
  fun_ok (cs := [(159, c_i_isBase), (160, c_i_isPerm)]) (own := []) (N := 50) (ios := []) (pins := []) fits ⟨k_i_isBase, ⟨k_i_isPerm, trivial⟩⟩ Try.func85 (L := L_i_MemoryOK) (by kernel_rfl) (by kernel_rfl) (by kernel_rfl)

/-! function 86: loop.example/g00664/impl.isHeap -/
noncomputable def i_isHeap (n : Nat) (a0 : Int) : Option (Bool) :=
  (i_within n (a0) ((512 : Int)) ((3584 : Int))).bind fun t0 => (some (t0))
noncomputable def c_i_isHeap : Con UU.El := ⟨[.c (.int .i64)], [.c (.bool)], fun n x => i_isHeap n x.1⟩
noncomputable def L_i_isHeap : Nat → Option (LoopC UU.El (AM.Os UU.El ([.c (.bool)] ++ bkSs [.c (.int .i64)]))) := lk []
theorem k_i_isHeap : ConOk Try.prog UU 86 c_i_isHeap :=
  fun_ok (cs := [(87, c_i_within)]) (own := []) (N := 5) (ios := []) (pins := []) fits ⟨k_i_within, trivial⟩ Try.func86 (L := L_i_isHeap) (by kernel_rfl) (by kernel_rfl) (by kernel_rfl)

/-! function 88: loop.example/g00664/impl.isSeed -/
noncomputable def i_isSeed (n : Nat) (a0 : Int) : Option (Bool) :=
  (i_within n (a0) ((0 : Int)) ((2147483647 : Int))).bind fun t0 => (some (t0))
noncomputable def c_i_isSeed : Con UU.El := ⟨[.c (.int .i64)], [.c (.bool)], fun n x => i_isSeed n x.1⟩
noncomputable def L_i_isSeed : Nat → Option (LoopC UU.El (AM.Os UU.El ([.c (.bool)] ++ bkSs [.c (.int .i64)]))) := lk []
theorem k_i_isSeed : ConOk Try.prog UU 88 c_i_isSeed :=
  fun_ok (cs := [(87, c_i_within)]) (own := []) (N := 5) (ios := []) (pins := []) fits ⟨k_i_within, trivial⟩ Try.func88 (L := L_i_isSeed) (by kernel_rfl) (by kernel_rfl) (by kernel_rfl)

/-! function 144: loop.example/g00664/impl.sign -/
noncomputable def i_sign (n : Nat) (a0 : Int) (a1 : Int) : Option (Int) :=
  bif decide (IntKind.i64.wrap ((64 : Int) - IntKind.i64.wrap ((8 : Int) * a1)) < (0 : Int)) then (none) else (bif decide (IntKind.i64.wrap ((64 : Int) - IntKind.i64.wrap ((8 : Int) * a1)) < (0 : Int)) then (none) else (some ((IntKind.i64.wrap (a0 * (2 : Int) ^ min (IntKind.i64.wrap ((64 : Int) - IntKind.i64.wrap ((8 : Int) * a1))).toNat IntKind.i64.bits)).fdiv ((2 : Int) ^ min (IntKind.i64.wrap ((64 : Int) - IntKind.i64.wrap ((8 : Int) * a1))).toNat IntKind.i64.bits))))
noncomputable def c_i_sign : Con UU.El := ⟨[.c (.int .i64), .c (.int .i64)], [.c (.int .i64)], fun n x => i_sign n x.1 x.2.1⟩
noncomputable def L_i_sign : Nat → Option (LoopC UU.El (AM.Os UU.El ([.c (.int .i64)] ++ bkSs [.c (.int .i64), .c (.int .i64)]))) := lk []
theorem k_i_sign : ConOk Try.prog UU 144 c_i_sign :=
  fun_ok (cs := []) (own := []) (N := 14) (ios := []) (pins := []) fits trivial Try.func144 (L := L_i_sign) (by kernel_rfl) (by kernel_rfl) (by kernel_rfl)

/-! function 161: loop.example/g00664/impl.fits -/
noncomputable def i_fits (n : Nat) (a0 : Int) (a1 : Int) : Option (Bool) :=
  (i_sign n (a0) (a1)).bind fun t0 => (some (t0 == a0))
noncomputable def c_i_fits : Con UU.El := ⟨[.c (.int .i64), .c (.int .i64)], [.c (.bool)], fun n x => i_fits n x.1 x.2.1⟩
noncomputable def L_i_fits : Nat → Option (LoopC UU.El (AM.Os UU.El ([.c (.bool)] ++ bkSs [.c (.int .i64), .c (.int .i64)]))) := lk []
theorem k_i_fits : ConOk Try.prog UU 161 c_i_fits :=
  fun_ok (cs := [(144, c_i_sign)]) (own := []) (N := 10) (ios := []) (pins := []) fits ⟨k_i_sign, trivial⟩ Try.func161 (L := L_i_fits) (by kernel_rfl) (by kernel_rfl) (by kernel_rfl)

/-! function 89: (loop.example/g00664/impl.Box).isEnd -/
noncomputable def i_Box_isEnd (n : Nat) (a0 : (List Int × Int × Int × List S_Page × Int × Int × ByteArray × Int × ByteArray × Int × Int × Int × Int × Int × Int × Unit)) : Option (Bool) :=
  bif a0.2.2.2.2.2.2.2.2.2.2.2.1 == (1 : Int) then (bif a0.2.2.2.2.2.2.2.2.2.2.2.2.1 == (0 : Int) then (bif a0.2.2.2.2.2.2.2.2.2.2.2.2.2.1 == (0 : Int) then (some (a0.2.2.2.2.2.2.2.2.2.2.2.2.2.2.1 == (0 : Int))) else (some (false))) else (some (false))) else (bif a0.2.2.2.2.2.2.2.2.2.2.2.1 == (2 : Int) then ((i_fits n (a0.2.2.2.2.2.2.2.2.2.2.2.2.1) ((4 : Int))).bind fun t0 => (bif t0 then (bif a0.2.2.2.2.2.2.2.2.2.2.2.2.2.1 == (0 : Int) then (some (a0.2.2.2.2.2.2.2.2.2.2.2.2.2.2.1 == (0 : Int))) else (some (false))) else (some (false)))) else (bif a0.2.2.2.2.2.2.2.2.2.2.2.1 == (3 : Int) then (bif a0.2.2.2.2.2.2.2.2.2.2.2.2.1 == (0 : Int) then ((i_within n (a0.2.2.2.2.2.2.2.2.2.2.2.2.2.1) ((1 : Int)) ((35 : Int))).bind fun t0 => (some (t0))) else (some (false))) else (some (false))))
noncomputable def c_i_Box_isEnd : Con UU.El := ⟨[.agg [.arr 3 16, .int .i64, .int .i64, .row 153, .int .i64, .int .i64, .str, .int .i64, .str, .int .i64, .int .i64, .int .i64, .int .i64, .int .i64, .int .i64]], [.c (.bool)], fun n x => i_Box_isEnd n x.1⟩
noncomputable def L_i_Box_isEnd : Nat → Option (LoopC UU.El (AM.Os UU.El ([.c (.bool)] ++ bkSs [.agg [.arr 3 16, .int .i64, .int .i64, .row 153, .int .i64, .int .i64, .str, .int .i64, .str, .int .i64, .int .i64, .int .i64, .int .i64, .int .i64, .int .i64]]))) := lk []
theorem k_i_Box_isEnd : ConOk Try.prog UU 89 c_i_Box_isEnd :=
  fun_ok (cs := [(161, c_i_fits), (87, c_i_within)]) (own := []) (N := 45) (ios := []) (pins := []) fits ⟨k_i_fits, ⟨k_i_within, trivial⟩⟩ Try.func89 (L := L_i_Box_isEnd) (by kernel_rfl) (by kernel_rfl) (by kernel_rfl)

/-! function 23: loop.example/g00664/impl.BoxOK -/
noncomputable def i_BoxOK (n : Nat) (a0 : (List Int × Int × Int × List S_Page × Int × Int × ByteArray × Int × ByteArray × Int × Int × Int × Int × Int × Int × Unit)) : Option (Bool) :=
  (i_CpuOK n ((a0.1, a0.2.1, a0.2.2.1, ()))).bind fun t0 => (bif t0 then ((i_MemoryOK n ((a0.2.2.2.1, ()))).bind fun t1 => (bif t1 then ((i_isHeap n (a0.2.2.2.2.1)).bind fun t2 => (bif t2 then ((i_within n (a0.2.2.2.2.2.1) (a0.2.2.2.2.1) ((3584 : Int))).bind fun t3 => (bif t3 then (bif decide (Int.ofNat a0.2.2.2.2.2.2.1.size ≤ (1024 : Int)) then ((i_within n (a0.2.2.2.2.2.2.2.1) ((0 : Int)) (Int.ofNat a0.2.2.2.2.2.2.1.size)).bind fun t4 => (bif t4 then (bif decide (Int.ofNat a0.2.2.2.2.2.2.2.2.1.size ≤ (512 : Int)) then ((i_within n (a0.2.2.2.2.2.2.2.2.2.1) ((0 : Int)) ((1000000 : Int))).bind fun t5 => (bif t5 then ((i_isSeed n (a0.2.2.2.2.2.2.2.2.2.2.1)).bind fun t6 => (bif t6 then ((i_Box_isEnd n (a0)).bind fun t7 => (some (t7))) else (some (false)))) else (some (false)))) else (some (false))) else (some (false)))) else (some (false))) else (some (false)))) else (some (false)))) else (some (false)))) else (some (false)))
noncomputable def c_i_BoxOK : Con UU.El := ⟨[.agg [.arr 3 16, .int .i64, .int .i64, .row 153, .int .i64, .int .i64, .str, .int .i64, .str, .int .i64, .int .i64, .int .i64, .int .i64, .int .i64, .int .i64]], [.c (.bool)], fun n x => i_BoxOK n x.1⟩
noncomputable def L_i_BoxOK : Nat → Option (LoopC UU.El (AM.Os UU.El ([.c (.bool)] ++ bkSs [.agg [.arr 3 16, .int .i64, .int .i64, .row 153, .int .i64, .int .i64, .str, .int .i64, .str, .int .i64, .int .i64, .int .i64, .int .i64, .int .i64, .int .i64]]))) := lk []
theorem k_i_BoxOK : ConOk Try.prog UU 23 c_i_BoxOK :=
  fun_ok (cs := [(84, c_i_CpuOK), (85, c_i_MemoryOK), (86, c_i_isHeap), (87, c_i_within), (88, c_i_isSeed), (89, c_i_Box_isEnd)]) (own := []) (N := 57) (ios := []) (pins := []) fits ⟨k_i_CpuOK, ⟨k_i_MemoryOK, ⟨k_i_isHeap, ⟨k_i_within, ⟨k_i_isSeed, ⟨k_i_Box_isEnd, trivial⟩⟩⟩⟩⟩⟩ Try.func23 (L := L_i_BoxOK) (by kernel_rfl) (by kernel_rfl) (by kernel_rfl)

/-! function 162: loop.example/g00664/laws.eqIntA16 -/
noncomputable def w_eqIntA16_r0 (l0 : Int → List Int → List Int → Option (Bool)) (n : Nat) (e5 : Int) (b0_0 : List Int) (b1_0 : List Int) : Option (Bool) :=
  bif decide (e5 < (16 : Int)) then (bif decide ((0 : Int) ≤ e5) then (bif decide (e5 < Int.ofNat (16 : Nat)) then (bif decide ((0 : Int) ≤ e5) then (bif decide (e5 < Int.ofNat (16 : Nat)) then (bif rd (0 : Int) b0_0 e5.toNat != rd (0 : Int) b1_0 e5.toNat then (some (false)) else ((l0 (IntKind.i64.wrap (e5 + (1 : Int))) (b0_0) (b1_0)))) else (none)) else (none)) else (none)) else (none)) else (some (true))
noncomputable def w_eqIntA16_ls (n : Nat) : (Int → List Int → List Int → Option (Bool)) := Nat.rec (motive := fun _ => (Int → List Int → List Int → Option (Bool))) (fun _ _ _ => none) (fun n h => (fun e5 b0_0 b1_0 => w_eqIntA16_r0 (h) n e5 b0_0 b1_0)) n
noncomputable def w_eqIntA16_m (l0 : Int → List Int → List Int → Option (Bool)) (n : Nat) (a0 : (List Int × Unit)) (a1 : (List Int × Unit)) : Option (Bool) :=
  (l0 ((0 : Int)) (a0.1) (a1.1))
noncomputable def w_eqIntA16 (n : Nat) (a0 : (List Int × Unit)) (a1 : (List Int × Unit)) : Option (Bool) := w_eqIntA16_m ((w_eqIntA16_ls n)) n a0 a1
noncomputable def c_w_eqIntA16 : Con UU.El := ⟨[.agg [.arr 3 16], .agg [.arr 3 16]], [.c (.bool)], fun n x => w_eqIntA16 n x.1 x.2.1⟩
noncomputable def L_w_eqIntA16 : Nat → Option (LoopC UU.El (AM.Os UU.El ([.c (.bool)] ++ bkSs [.agg [.arr 3 16], .agg [.arr 3 16]]))) := lk [(0, ⟨⟨[(2, .c (.ptr 0 0)), (3, .c (.ptr 1 0)), (5, .c (.int .i64))], [.st 32 [.arr 3 16], .st 32 [.arr 3 16]]⟩, fun n x => (w_eqIntA16_ls n) x.1.2.2.1 x.2.1.1 x.2.2.1.1⟩)]
theorem k_w_eqIntA16 : ConOk Try.prog UU 162 c_w_eqIntA16 :=
  fun_ok (cs := []) (own := []) (N := 17) (ios := []) (pins := []) fits trivial Try.func162 (L := L_w_eqIntA16) (by kernel_rfl) (by kernel_rfl) (by kernel_rfl)

/-! function 90: loop.example/g00664/laws.eqCpu -/
noncomputable def w_eqCpu (n : Nat) (a0 : (List Int × Int × Int × Unit)) (a1 : (List Int × Int × Int × Unit)) : Option (Bool) :=
  (w_eqIntA16 n ((a0.1, ())) ((a1.1, ()))).bind fun t0 => (bif !t0 then (some (false)) else (bif a0.2.1 != a1.2.1 then (some (false)) else (bif a0.2.2.1 != a1.2.2.1 then (some (false)) else (some (true)))))
noncomputable def c_w_eqCpu : Con UU.El := ⟨[.agg [.arr 3 16, .int .i64, .int .i64], .agg [.arr 3 16, .int .i64, .int .i64]], [.c (.bool)], fun n x => w_eqCpu n x.1 x.2.1⟩
noncomputable def L_w_eqCpu : Nat → Option (LoopC UU.El (AM.Os UU.El ([.c (.bool)] ++ bkSs [.agg [.arr 3 16, .int .i64, .int .i64], .agg [.arr 3 16, .int .i64, .int .i64]]))) := lk []
theorem k_w_eqCpu : ConOk Try.prog UU 90 c_w_eqCpu :=
  fun_ok (cs := [(162, c_w_eqIntA16)]) (own := []) (N := 21) (ios := []) (pins := []) fits ⟨k_w_eqIntA16, trivial⟩ Try.func90 (L := L_w_eqCpu) (by kernel_rfl) (by kernel_rfl) (by kernel_rfl)

/-! function 170: loop.example/g00664/laws.eqPage -/
noncomputable def w_eqPage (n : Nat) (a0 : (Int × Int × ByteArray × Unit)) (a1 : (Int × Int × ByteArray × Unit)) : Option (Bool) :=
  bif a0.1 != a1.1 then (some (false)) else (bif a0.2.1 != a1.2.1 then (some (false)) else (bif !a0.2.2.1.toList == a1.2.2.1.toList then (some (false)) else (some (true))))
noncomputable def c_w_eqPage : Con UU.El := ⟨[.agg [.int .i64, .int .i64, .str], .agg [.int .i64, .int .i64, .str]], [.c (.bool)], fun n x => w_eqPage n x.1 x.2.1⟩
noncomputable def L_w_eqPage : Nat → Option (LoopC UU.El (AM.Os UU.El ([.c (.bool)] ++ bkSs [.agg [.int .i64, .int .i64, .str], .agg [.int .i64, .int .i64, .str]]))) := lk []
theorem k_w_eqPage : ConOk Try.prog UU 170 c_w_eqPage :=
  fun_ok (cs := []) (own := []) (N := 20) (ios := []) (pins := []) fits trivial Try.func170 (L := L_w_eqPage) (by kernel_rfl) (by kernel_rfl) (by kernel_rfl)

/-! function 98: loop.example/g00664/laws.eqPageS -/
noncomputable def w_eqPageS_r0 (l0 : List S_Page → List S_Page → Int → Option (Bool)) (n : Nat) (e0 : List S_Page) (e1 : List S_Page) (e5 : Int) : Option (Bool) :=
  bif decide (e5 < Int.ofNat e0.length) then (bif decide ((0 : Int) ≤ e5) then (bif decide (e5 < Int.ofNat e0.length) then (bif decide ((0 : Int) ≤ e5) then (bif decide (e5 < Int.ofNat e1.length) then ((w_eqPage n (((rd z_Page e0 e5.toNat).f0, (rd z_Page e0 e5.toNat).f1, (rd z_Page e0 e5.toNat).f2, ())) (((rd z_Page e1 e5.toNat).f0, (rd z_Page e1 e5.toNat).f1, (rd z_Page e1 e5.toNat).f2, ()))).bind fun t0 => (bif !t0 then (some (false)) else ((l0 (e0) (e1) (IntKind.i64.wrap (e5 + (1 : Int))))))) else (none)) else (none)) else (none)) else (none)) else (some (true))
noncomputable def w_eqPageS_ls (n : Nat) : (List S_Page → List S_Page → Int → Option (Bool)) := Nat.rec (motive := fun _ => (List S_Page → List S_Page → Int → Option (Bool))) (fun _ _ _ => none) (fun n h => (fun e0 e1 e5 => w_eqPageS_r0 (h) n e0 e1 e5)) n
noncomputable def w_eqPageS_m (l0 : List S_Page → List S_Page → Int → Option (Bool)) (n : Nat) (a0 : List S_Page) (a1 : List S_Page) : Option (Bool) :=
  bif Int.ofNat a0.length != Int.ofNat a1.length then (some (false)) else ((l0 (a0) (a1) ((0 : Int))))
noncomputable def w_eqPageS (n : Nat) (a0 : List S_Page) (a1 : List S_Page) : Option (Bool) := w_eqPageS_m ((w_eqPageS_ls n)) n a0 a1
noncomputable def c_w_eqPageS : Con UU.El := ⟨[.c (.row 153), .c (.row 153)], [.c (.bool)], fun n x => w_eqPageS n x.1 x.2.1⟩
noncomputable def L_w_eqPageS : Nat → Option (LoopC UU.El (AM.Os UU.El ([.c (.bool)] ++ bkSs [.c (.row 153), .c (.row 153)]))) := lk [(0, ⟨⟨[(0, .c (.row 153 false)), (1, .c (.row 153 false)), (5, .c (.int .i64))], []⟩, fun n x => (w_eqPageS_ls n) x.1.1 x.1.2.1 x.1.2.2.1⟩)]
theorem k_w_eqPageS : ConOk Try.prog UU 98 c_w_eqPageS :=
  fun_ok (cs := [(170, c_w_eqPage)]) (own := []) (N := 27) (ios := []) (pins := []) fits ⟨k_w_eqPage, trivial⟩ Try.func98 (L := L_w_eqPageS) (by kernel_rfl) (by kernel_rfl) (by kernel_rfl)

/-! function 29: loop.example/g00664/laws.eqMemory -/
noncomputable def w_eqMemory (n : Nat) (a0 : (List S_Page × Unit)) (a1 : (List S_Page × Unit)) : Option (Bool) :=
  (w_eqPageS n (a0.1) (a1.1)).bind fun t0 => (bif !t0 then (some (false)) else (some (true)))
noncomputable def c_w_eqMemory : Con UU.El := ⟨[.agg [.row 153], .agg [.row 153]], [.c (.bool)], fun n x => w_eqMemory n x.1 x.2.1⟩
noncomputable def L_w_eqMemory : Nat → Option (LoopC UU.El (AM.Os UU.El ([.c (.bool)] ++ bkSs [.agg [.row 153], .agg [.row 153]]))) := lk []
theorem k_w_eqMemory : ConOk Try.prog UU 29 c_w_eqMemory :=
  fun_ok (cs := [(98, c_w_eqPageS)]) (own := []) (N := 11) (ios := []) (pins := []) fits ⟨k_w_eqPageS, trivial⟩ Try.func29 (L := L_w_eqMemory) (by kernel_rfl) (by kernel_rfl) (by kernel_rfl)

/-! function 24: loop.example/g00664/laws.eqBox -/
noncomputable def w_eqBox (n : Nat) (a0 : (List Int × Int × Int × List S_Page × Int × Int × ByteArray × Int × ByteArray × Int × Int × Int × Int × Int × Int × Unit)) (a1 : (List Int × Int × Int × List S_Page × Int × Int × ByteArray × Int × ByteArray × Int × Int × Int × Int × Int × Int × Unit)) : Option (Bool) :=
  (w_eqCpu n ((a0.1, a0.2.1, a0.2.2.1, ())) ((a1.1, a1.2.1, a1.2.2.1, ()))).bind fun t0 => (bif !t0 then (some (false)) else ((w_eqMemory n ((a0.2.2.2.1, ())) ((a1.2.2.2.1, ()))).bind fun t1 => (bif !t1 then (some (false)) else (bif a0.2.2.2.2.1 != a1.2.2.2.2.1 then (some (false)) else (bif a0.2.2.2.2.2.1 != a1.2.2.2.2.2.1 then (some (false)) else (bif !a0.2.2.2.2.2.2.1.toList == a1.2.2.2.2.2.2.1.toList then (some (false)) else (bif a0.2.2.2.2.2.2.2.1 != a1.2.2.2.2.2.2.2.1 then (some (false)) else (bif !a0.2.2.2.2.2.2.2.2.1.toList == a1.2.2.2.2.2.2.2.2.1.toList then (some (false)) else (bif a0.2.2.2.2.2.2.2.2.2.1 != a1.2.2.2.2.2.2.2.2.2.1 then (some (false)) else (bif a0.2.2.2.2.2.2.2.2.2.2.1 != a1.2.2.2.2.2.2.2.2.2.2.1 then (some (false)) else (bif a0.2.2.2.2.2.2.2.2.2.2.2.1 != a1.2.2.2.2.2.2.2.2.2.2.2.1 then (some (false)) else (bif a0.2.2.2.2.2.2.2.2.2.2.2.2.1 != a1.2.2.2.2.2.2.2.2.2.2.2.2.1 then (some (false)) else (bif a0.2.2.2.2.2.2.2.2.2.2.2.2.2.1 != a1.2.2.2.2.2.2.2.2.2.2.2.2.2.1 then (some (false)) else (bif a0.2.2.2.2.2.2.2.2.2.2.2.2.2.2.1 != a1.2.2.2.2.2.2.2.2.2.2.2.2.2.2.1 then (some (false)) else (some (true))))))))))))))))
noncomputable def c_w_eqBox : Con UU.El := ⟨[.agg [.arr 3 16, .int .i64, .int .i64, .row 153, .int .i64, .int .i64, .str, .int .i64, .str, .int .i64, .int .i64, .int .i64, .int .i64, .int .i64, .int .i64], .agg [.arr 3 16, .int .i64, .int .i64, .row 153, .int .i64, .int .i64, .str, .int .i64, .str, .int .i64, .int .i64, .int .i64, .int .i64, .int .i64, .int .i64]], [.c (.bool)], fun n x => w_eqBox n x.1 x.2.1⟩
noncomputable def L_w_eqBox : Nat → Option (LoopC UU.El (AM.Os UU.El ([.c (.bool)] ++ bkSs [.agg [.arr 3 16, .int .i64, .int .i64, .row 153, .int .i64, .int .i64, .str, .int .i64, .str, .int .i64, .int .i64, .int .i64, .int .i64, .int .i64, .int .i64], .agg [.arr 3 16, .int .i64, .int .i64, .row 153, .int .i64, .int .i64, .str, .int .i64, .str, .int .i64, .int .i64, .int .i64, .int .i64, .int .i64, .int .i64]]))) := lk []
theorem k_w_eqBox : ConOk Try.prog UU 24 c_w_eqBox :=
  fun_ok (cs := [(90, c_w_eqCpu), (29, c_w_eqMemory)]) (own := []) (N := 72) (ios := []) (pins := []) fits ⟨k_w_eqCpu, ⟨k_w_eqMemory, trivial⟩⟩ Try.func24 (L := L_w_eqBox) (by kernel_rfl) (by kernel_rfl) (by kernel_rfl)

/-! function 4: loop.example/g00664/laws.FnExactBoxOK -/
noncomputable def w_FnExactBoxOK (n : Nat) (a0 : (List Int × Int × Int × List S_Page × Int × Int × ByteArray × Int × ByteArray × Int × Int × Int × Int × Int × Int × Unit)) : Option (Bool) :=
  (w_szBox n (a0) ((1048576 : Int))).bind fun t0 => (bif decide (t0 < (0 : Int)) then (some (true)) else ((w_toBox n (a0)).bind fun t1 => ((s_BoxOK n (t1)).bind fun t2 => ((w_toBox n (a0)).bind fun t3 => ((i_BoxOK n (t3)).bind fun t4 => (bif !t4 == t2 then (some (false)) else ((w_toBox n (a0)).bind fun t5 => ((w_eqBox n (t3) (t5)).bind fun t6 => (bif !t6 then (some (false)) else (some (true)))))))))))
noncomputable def c_w_FnExactBoxOK : Con UU.El := ⟨[.agg [.arr 3 16, .int .i64, .int .i64, .row 157, .int .i64, .int .i64, .str, .int .i64, .str, .int .i64, .int .i64, .int .i64, .int .i64, .int .i64, .int .i64]], [.c (.bool)], fun n x => w_FnExactBoxOK n x.1⟩
noncomputable def L_w_FnExactBoxOK : Nat → Option (LoopC UU.El (AM.Os UU.El ([.c (.bool)] ++ bkSs [.agg [.arr 3 16, .int .i64, .int .i64, .row 157, .int .i64, .int .i64, .str, .int .i64, .str, .int .i64, .int .i64, .int .i64, .int .i64, .int .i64, .int .i64]]))) := lk []
theorem k_w_FnExactBoxOK : ConOk Try.prog UU 4 c_w_FnExactBoxOK :=
  fun_ok (cs := [(20, c_w_szBox), (22, c_w_toBox), (21, c_s_BoxOK), (23, c_i_BoxOK), (24, c_w_eqBox)]) (own := []) (N := 27) (ios := []) (pins := []) fits ⟨k_w_szBox, ⟨k_w_toBox, ⟨k_s_BoxOK, ⟨k_i_BoxOK, ⟨k_w_eqBox, trivial⟩⟩⟩⟩⟩ Try.func4 (L := L_w_FnExactBoxOK) (by kernel_rfl) (by kernel_rfl) (by kernel_rfl)

/-! function 172: loop.example/g00664/spec.l02Same -/
noncomputable def s_l02Same_r0 (l0 : Int → List S_Page → List S_Page → Option (Bool)) (n : Nat) (e5 : Int) (b0_0 : List S_Page) (b1_0 : List S_Page) : Option (Bool) :=
  bif decide (e5 < Int.ofNat b0_0.length) then (bif decide ((0 : Int) ≤ e5) then (bif decide (e5 < Int.ofNat b0_0.length) then (bif decide ((0 : Int) ≤ e5) then (bif decide (e5 < Int.ofNat b1_0.length) then (bif !((rd z_Page b0_0 e5.toNat).f0 == (rd z_Page b1_0 e5.toNat).f0 && ((rd z_Page b0_0 e5.toNat).f1 == (rd z_Page b1_0 e5.toNat).f1 && ((rd z_Page b0_0 e5.toNat).f2.toList == (rd z_Page b1_0 e5.toNat).f2.toList && true))) then (some (false)) else ((l0 (IntKind.i64.wrap (e5 + (1 : Int))) (b0_0) (b1_0)))) else (none)) else (none)) else (none)) else (none)) else (some (true))
noncomputable def s_l02Same_ls (n : Nat) : (Int → List S_Page → List S_Page → Option (Bool)) := Nat.rec (motive := fun _ => (Int → List S_Page → List S_Page → Option (Bool))) (fun _ _ _ => none) (fun n h => (fun e5 b0_0 b1_0 => s_l02Same_r0 (h) n e5 b0_0 b1_0)) n
noncomputable def s_l02Same_m (l0 : Int → List S_Page → List S_Page → Option (Bool)) (n : Nat) (a0 : (List S_Page × Unit)) (a1 : (List S_Page × Unit)) : Option (Bool) :=
  bif Int.ofNat a0.1.length != Int.ofNat a1.1.length then (some (false)) else ((l0 ((0 : Int)) (a0.1) (a1.1)))
noncomputable def s_l02Same (n : Nat) (a0 : (List S_Page × Unit)) (a1 : (List S_Page × Unit)) : Option (Bool) := s_l02Same_m ((s_l02Same_ls n)) n a0 a1
noncomputable def c_s_l02Same : Con UU.El := ⟨[.agg [.row 153], .agg [.row 153]], [.c (.bool)], fun n x => s_l02Same n x.1 x.2.1⟩
noncomputable def L_s_l02Same : Nat → Option (LoopC UU.El (AM.Os UU.El ([.c (.bool)] ++ bkSs [.agg [.row 153], .agg [.row 153]]))) := lk [(0, ⟨⟨[(2, .c (.ptr 0 0)), (3, .c (.ptr 1 0)), (5, .c (.int .i64))], [.st 45 [.row 153 false], .st 45 [.row 153 false]]⟩, fun n x => (s_l02Same_ls n) x.1.2.2.1 x.2.1.1 x.2.2.1.1⟩)]
theorem k_s_l02Same : ConOk Try.prog UU 172 c_s_l02Same :=
  fun_ok (cs := []) (own := []) (N := 31) (ios := []) (pins := []) fits trivial Try.func172 (L := L_s_l02Same) (by kernel_rfl) (by kernel_rfl) (by kernel_rfl)

/-! function 101: loop.example/g00664/spec.l12Same -/
noncomputable def s_l12Same (n : Nat) (a0 : (List Int × Int × Int × List S_Page × Int × Int × ByteArray × Int × ByteArray × Int × Int × Int × Int × Int × Int × Unit)) (a1 : (List Int × Int × Int × List S_Page × Int × Int × ByteArray × Int × ByteArray × Int × Int × Int × Int × Int × Int × Unit)) : Option (Bool) :=
  bif arrEq UU (3 : Nat) a0.1 a1.1 && (a0.2.1 == a1.2.1 && (a0.2.2.1 == a1.2.2.1 && true)) then ((s_l02Same n ((a0.2.2.2.1, ())) ((a1.2.2.2.1, ()))).bind fun t0 => (bif t0 then (bif a0.2.2.2.2.1 == a1.2.2.2.2.1 then (bif a0.2.2.2.2.2.1 == a1.2.2.2.2.2.1 then (bif a0.2.2.2.2.2.2.1.toList == a1.2.2.2.2.2.2.1.toList then (bif a0.2.2.2.2.2.2.2.1 == a1.2.2.2.2.2.2.2.1 then (bif a0.2.2.2.2.2.2.2.2.1.toList == a1.2.2.2.2.2.2.2.2.1.toList then (bif a0.2.2.2.2.2.2.2.2.2.1 == a1.2.2.2.2.2.2.2.2.2.1 then (bif a0.2.2.2.2.2.2.2.2.2.2.1 == a1.2.2.2.2.2.2.2.2.2.2.1 then (bif a0.2.2.2.2.2.2.2.2.2.2.2.1 == a1.2.2.2.2.2.2.2.2.2.2.2.1 then (bif a0.2.2.2.2.2.2.2.2.2.2.2.2.1 == a1.2.2.2.2.2.2.2.2.2.2.2.2.1 then (bif a0.2.2.2.2.2.2.2.2.2.2.2.2.2.1 == a1.2.2.2.2.2.2.2.2.2.2.2.2.2.1 then (some (a0.2.2.2.2.2.2.2.2.2.2.2.2.2.2.1 == a1.2.2.2.2.2.2.2.2.2.2.2.2.2.2.1)) else (some (false))) else (some (false))) else (some (false))) else (some (false))) else (some (false))) else (some (false))) else (some (false))) else (some (false))) else (some (false))) else (some (false))) else (some (false)))) else (some (false))
noncomputable def c_s_l12Same : Con UU.El := ⟨[.agg [.arr 3 16, .int .i64, .int .i64, .row 153, .int .i64, .int .i64, .str, .int .i64, .str, .int .i64, .int .i64, .int .i64, .int .i64, .int .i64, .int .i64], .agg [.arr 3 16, .int .i64, .int .i64, .row 153, .int .i64, .int .i64, .str, .int .i64, .str, .int .i64, .int .i64, .int .i64, .int .i64, .int .i64, .int .i64]], [.c (.bool)], fun n x => s_l12Same n x.1 x.2.1⟩
noncomputable def L_s_l12Same : Nat → Option (LoopC UU.El (AM.Os UU.El ([.c (.bool)] ++ bkSs [.agg [.arr 3 16, .int .i64, .int .i64, .row 153, .int .i64, .int .i64, .str, .int .i64, .str, .int .i64, .int .i64, .int .i64, .int .i64, .int .i64, .int .i64], .agg [.arr 3 16, .int .i64, .int .i64, .row 153, .int .i64, .int .i64, .str, .int .i64, .str, .int .i64, .int .i64, .int .i64, .int .i64, .int .i64, .int .i64]]))) := lk []
theorem k_s_l12Same : ConOk Try.prog UU 101 c_s_l12Same :=
  fun_ok (cs := [(172, c_s_l02Same)]) (own := []) (N := 94) (ios := []) (pins := []) fits ⟨k_s_l02Same, trivial⟩ Try.func101 (L := L_s_l12Same) (by kernel_rfl) (by kernel_rfl) (by kernel_rfl)

/-! function 32: loop.example/g00664/spec.SameBox -/
noncomputable def s_SameBox (n : Nat) (a0 : (List Int × Int × Int × List S_Page × Int × Int × ByteArray × Int × ByteArray × Int × Int × Int × Int × Int × Int × Unit)) (a1 : (List Int × Int × Int × List S_Page × Int × Int × ByteArray × Int × ByteArray × Int × Int × Int × Int × Int × Int × Unit)) : Option (Bool) :=
  (s_BoxOK n (a0)).bind fun t0 => (bif t0 then ((s_BoxOK n (a1)).bind fun t1 => (bif t1 then ((s_l12Same n (a0) (a1)).bind fun t2 => (some (t2))) else (some (false)))) else (some (false)))
noncomputable def c_s_SameBox : Con UU.El := ⟨[.agg [.arr 3 16, .int .i64, .int .i64, .row 153, .int .i64, .int .i64, .str, .int .i64, .str, .int .i64, .int .i64, .int .i64, .int .i64, .int .i64, .int .i64], .agg [.arr 3 16, .int .i64, .int .i64, .row 153, .int .i64, .int .i64, .str, .int .i64, .str, .int .i64, .int .i64, .int .i64, .int .i64, .int .i64, .int .i64]], [.c (.bool)], fun n x => s_SameBox n x.1 x.2.1⟩
noncomputable def L_s_SameBox : Nat → Option (LoopC UU.El (AM.Os UU.El ([.c (.bool)] ++ bkSs [.agg [.arr 3 16, .int .i64, .int .i64, .row 153, .int .i64, .int .i64, .str, .int .i64, .str, .int .i64, .int .i64, .int .i64, .int .i64, .int .i64, .int .i64], .agg [.arr 3 16, .int .i64, .int .i64, .row 153, .int .i64, .int .i64, .str, .int .i64, .str, .int .i64, .int .i64, .int .i64, .int .i64, .int .i64, .int .i64]]))) := lk []
theorem k_s_SameBox : ConOk Try.prog UU 32 c_s_SameBox :=
  fun_ok (cs := [(21, c_s_BoxOK), (101, c_s_l12Same)]) (own := []) (N := 16) (ios := []) (pins := []) fits ⟨k_s_BoxOK, ⟨k_s_l12Same, trivial⟩⟩ Try.func32 (L := L_s_SameBox) (by kernel_rfl) (by kernel_rfl) (by kernel_rfl)

/-! function 173: slices.Equal[[]loop.example/g00664/impl.Page,loop.example/g00664/impl.Page] -/
noncomputable def slices_Equal_i_Page_i_Page_r0 (l0 : List S_Page → List S_Page → Int → Int → Option (Bool)) (n : Nat) (e0 : List S_Page) (e1 : List S_Page) (e12 : Int) (e13 : Int) : Option (Bool) :=
  bif decide (e13 < e12) then (bif decide ((0 : Int) ≤ e13) then (bif decide (e13 < Int.ofNat e0.length) then (bif decide ((0 : Int) ≤ e13) then (bif decide (e13 < Int.ofNat e1.length) then (bif !((rd z_Page e0 e13.toNat).f0 == (rd z_Page e1 e13.toNat).f0 && ((rd z_Page e0 e13.toNat).f1 == (rd z_Page e1 e13.toNat).f1 && ((rd z_Page e0 e13.toNat).f2.toList == (rd z_Page e1 e13.toNat).f2.toList && true))) then (some (false)) else ((l0 (e0) (e1) (e12) (IntKind.i64.wrap (e13 + (1 : Int)))))) else (none)) else (none)) else (none)) else (none)) else (some (true))
noncomputable def slices_Equal_i_Page_i_Page_ls (n : Nat) : (List S_Page → List S_Page → Int → Int → Option (Bool)) := Nat.rec (motive := fun _ => (List S_Page → List S_Page → Int → Int → Option (Bool))) (fun _ _ _ _ => none) (fun n h => (fun e0 e1 e12 e13 => slices_Equal_i_Page_i_Page_r0 (h) n e0 e1 e12 e13)) n
noncomputable def slices_Equal_i_Page_i_Page_m (l0 : List S_Page → List S_Page → Int → Int → Option (Bool)) (n : Nat) (a0 : List S_Page) (a1 : List S_Page) : Option (Bool) :=
  bif Int.ofNat a0.length != Int.ofNat a1.length then (some (false)) else ((l0 (a0) (a1) (Int.ofNat a0.length) ((0 : Int))))
noncomputable def slices_Equal_i_Page_i_Page (n : Nat) (a0 : List S_Page) (a1 : List S_Page) : Option (Bool) := slices_Equal_i_Page_i_Page_m ((slices_Equal_i_Page_i_Page_ls n)) n a0 a1
noncomputable def c_slices_Equal_i_Page_i_Page : Con UU.El := ⟨[.c (.row 153), .c (.row 153)], [.c (.bool)], fun n x => slices_Equal_i_Page_i_Page n x.1 x.2.1⟩
noncomputable def L_slices_Equal_i_Page_i_Page : Nat → Option (LoopC UU.El (AM.Os UU.El ([.c (.bool)] ++ bkSs [.c (.row 153), .c (.row 153)]))) := lk [(0, ⟨⟨[(0, .c (.row 153 false)), (1, .c (.row 153 false)), (12, .c (.int .i64)), (13, .c (.int .i64))], []⟩, fun n x => (slices_Equal_i_Page_i_Page_ls n) x.1.1 x.1.2.1 x.1.2.2.1 x.1.2.2.2.1⟩)]
theorem k_slices_Equal_i_Page_i_Page : ConOk Try.prog UU 173 c_slices_Equal_i_Page_i_Page :=
  fun_ok (cs := []) (own := []) (N := 26) (ios := []) (pins := []) fits trivial Try.func173 (L := L_slices_Equal_i_Page_i_Page) (by kernel_rfl) (by kernel_rfl) (by kernel_rfl)

/-! function 102: loop.example/g00664/impl.SameMemory -/
noncomputable def i_SameMemory (n : Nat) (a0 : (List S_Page × Unit)) (a1 : (List S_Page × Unit)) : Option (Bool) :=
  (i_MemoryOK n (a0)).bind fun t0 => (bif t0 then ((i_MemoryOK n (a1)).bind fun t1 => (bif t1 then ((slices_Equal_i_Page_i_Page n (a0.1) (a1.1)).bind fun t2 => (some (t2))) else (some (false)))) else (some (false)))
noncomputable def c_i_SameMemory : Con UU.El := ⟨[.agg [.row 153], .agg [.row 153]], [.c (.bool)], fun n x => i_SameMemory n x.1 x.2.1⟩
noncomputable def L_i_SameMemory : Nat → Option (LoopC UU.El (AM.Os UU.El ([.c (.bool)] ++ bkSs [.agg [.row 153], .agg [.row 153]]))) := lk []
theorem k_i_SameMemory : ConOk Try.prog UU 102 c_i_SameMemory :=
  fun_ok (cs := [(85, c_i_MemoryOK), (173, c_slices_Equal_i_Page_i_Page)]) (own := []) (N := 18) (ios := []) (pins := []) fits ⟨k_i_MemoryOK, ⟨k_slices_Equal_i_Page_i_Page, trivial⟩⟩ Try.func102 (L := L_i_SameMemory) (by kernel_rfl) (by kernel_rfl) (by kernel_rfl)

/-! function 103: loop.example/g00664/impl.sameRest -/
noncomputable def i_sameRest (n : Nat) (a0 : (List Int × Int × Int × List S_Page × Int × Int × ByteArray × Int × ByteArray × Int × Int × Int × Int × Int × Int × Unit)) (a1 : (List Int × Int × Int × List S_Page × Int × Int × ByteArray × Int × ByteArray × Int × Int × Int × Int × Int × Int × Unit)) : Option (Bool) :=
  bif arrEq UU (3 : Nat) a0.1 a1.1 && (a0.2.1 == a1.2.1 && (a0.2.2.1 == a1.2.2.1 && true)) then (bif a0.2.2.2.2.1 == a1.2.2.2.2.1 then (bif a0.2.2.2.2.2.1 == a1.2.2.2.2.2.1 then (bif a0.2.2.2.2.2.2.1.toList == a1.2.2.2.2.2.2.1.toList then (bif a0.2.2.2.2.2.2.2.1 == a1.2.2.2.2.2.2.2.1 then (bif a0.2.2.2.2.2.2.2.2.1.toList == a1.2.2.2.2.2.2.2.2.1.toList then (bif a0.2.2.2.2.2.2.2.2.2.1 == a1.2.2.2.2.2.2.2.2.2.1 then (bif a0.2.2.2.2.2.2.2.2.2.2.1 == a1.2.2.2.2.2.2.2.2.2.2.1 then (bif a0.2.2.2.2.2.2.2.2.2.2.2.1 == a1.2.2.2.2.2.2.2.2.2.2.2.1 then (bif a0.2.2.2.2.2.2.2.2.2.2.2.2.1 == a1.2.2.2.2.2.2.2.2.2.2.2.2.1 then (bif a0.2.2.2.2.2.2.2.2.2.2.2.2.2.1 == a1.2.2.2.2.2.2.2.2.2.2.2.2.2.1 then (some (a0.2.2.2.2.2.2.2.2.2.2.2.2.2.2.1 == a1.2.2.2.2.2.2.2.2.2.2.2.2.2.2.1)) else (some (false))) else (some (false))) else (some (false))) else (some (false))) else (some (false))) else (some (false))) else (some (false))) else (some (false))) else (some (false))) else (some (false))) else (some (false))
noncomputable def c_i_sameRest : Con UU.El := ⟨[.agg [.arr 3 16, .int .i64, .int .i64, .row 153, .int .i64, .int .i64, .str, .int .i64, .str, .int .i64, .int .i64, .int .i64, .int .i64, .int .i64, .int .i64], .agg [.arr 3 16, .int .i64, .int .i64, .row 153, .int .i64, .int .i64, .str, .int .i64, .str, .int .i64, .int .i64, .int .i64, .int .i64, .int .i64, .int .i64]], [.c (.bool)], fun n x => i_sameRest n x.1 x.2.1⟩
noncomputable def L_i_sameRest : Nat → Option (LoopC UU.El (AM.Os UU.El ([.c (.bool)] ++ bkSs [.agg [.arr 3 16, .int .i64, .int .i64, .row 153, .int .i64, .int .i64, .str, .int .i64, .str, .int .i64, .int .i64, .int .i64, .int .i64, .int .i64, .int .i64], .agg [.arr 3 16, .int .i64, .int .i64, .row 153, .int .i64, .int .i64, .str, .int .i64, .str, .int .i64, .int .i64, .int .i64, .int .i64, .int .i64, .int .i64]]))) := lk []
theorem k_i_sameRest : ConOk Try.prog UU 103 c_i_sameRest :=
  fun_ok (cs := []) (own := []) (N := 87) (ios := []) (pins := []) fits trivial Try.func103 (L := L_i_sameRest) (by kernel_rfl) (by kernel_rfl) (by kernel_rfl)

/-! function 33: loop.example/g00664/impl.SameBox -/
noncomputable def i_SameBox (n : Nat) (a0 : (List Int × Int × Int × List S_Page × Int × Int × ByteArray × Int × ByteArray × Int × Int × Int × Int × Int × Int × Unit)) (a1 : (List Int × Int × Int × List S_Page × Int × Int × ByteArray × Int × ByteArray × Int × Int × Int × Int × Int × Int × Unit)) : Option (Bool) :=
  (i_BoxOK n (a0)).bind fun t0 => (bif t0 then ((i_BoxOK n (a1)).bind fun t1 => (bif t1 then ((i_SameMemory n ((a0.2.2.2.1, ())) ((a1.2.2.2.1, ()))).bind fun t2 => (bif t2 then ((i_sameRest n (a0) (a1)).bind fun t3 => (some (t3))) else (some (false)))) else (some (false)))) else (some (false)))
noncomputable def c_i_SameBox : Con UU.El := ⟨[.agg [.arr 3 16, .int .i64, .int .i64, .row 153, .int .i64, .int .i64, .str, .int .i64, .str, .int .i64, .int .i64, .int .i64, .int .i64, .int .i64, .int .i64], .agg [.arr 3 16, .int .i64, .int .i64, .row 153, .int .i64, .int .i64, .str, .int .i64, .str, .int .i64, .int .i64, .int .i64, .int .i64, .int .i64, .int .i64]], [.c (.bool)], fun n x => i_SameBox n x.1 x.2.1⟩
noncomputable def L_i_SameBox : Nat → Option (LoopC UU.El (AM.Os UU.El ([.c (.bool)] ++ bkSs [.agg [.arr 3 16, .int .i64, .int .i64, .row 153, .int .i64, .int .i64, .str, .int .i64, .str, .int .i64, .int .i64, .int .i64, .int .i64, .int .i64, .int .i64], .agg [.arr 3 16, .int .i64, .int .i64, .row 153, .int .i64, .int .i64, .str, .int .i64, .str, .int .i64, .int .i64, .int .i64, .int .i64, .int .i64, .int .i64]]))) := lk []
theorem k_i_SameBox : ConOk Try.prog UU 33 c_i_SameBox :=
  fun_ok (cs := [(23, c_i_BoxOK), (102, c_i_SameMemory), (103, c_i_sameRest)]) (own := []) (N := 23) (ios := []) (pins := []) fits ⟨k_i_BoxOK, ⟨k_i_SameMemory, ⟨k_i_sameRest, trivial⟩⟩⟩ Try.func33 (L := L_i_SameBox) (by kernel_rfl) (by kernel_rfl) (by kernel_rfl)

/-! function 6: loop.example/g00664/laws.FnExactSameBox -/
noncomputable def w_FnExactSameBox (n : Nat) (a0 : (List Int × Int × Int × List S_Page × Int × Int × ByteArray × Int × ByteArray × Int × Int × Int × Int × Int × Int × Unit)) (a1 : (List Int × Int × Int × List S_Page × Int × Int × ByteArray × Int × ByteArray × Int × Int × Int × Int × Int × Int × Unit)) : Option (Bool) :=
  (w_szBox n (a0) ((1048576 : Int))).bind fun t0 => (bif decide (t0 < (0 : Int)) then (some (true)) else ((w_szBox n (a1) (t0)).bind fun t1 => (bif decide (t1 < (0 : Int)) then (some (true)) else ((w_toBox n (a0)).bind fun t2 => ((w_toBox n (a1)).bind fun t3 => ((s_SameBox n (t2) (t3)).bind fun t4 => ((w_toBox n (a0)).bind fun t5 => ((w_toBox n (a1)).bind fun t6 => ((i_SameBox n (t5) (t6)).bind fun t7 => (bif !t7 == t4 then (some (false)) else ((w_toBox n (a0)).bind fun t8 => ((w_eqBox n (t5) (t8)).bind fun t9 => (bif !t9 then (some (false)) else ((w_toBox n (a1)).bind fun t10 => ((w_eqBox n (t6) (t10)).bind fun t11 => (bif !t11 then (some (false)) else (some (true))))))))))))))))))
noncomputable def c_w_FnExactSameBox : Con UU.El := ⟨[.agg [.arr 3 16, .int .i64, .int .i64, .row 157, .int .i64, .int .i64, .str, .int .i64, .str, .int .i64, .int .i64, .int .i64, .int .i64, .int .i64, .int .i64], .agg [.arr 3 16, .int .i64, .int .i64, .row 157, .int .i64, .int .i64, .str, .int .i64, .str, .int .i64, .int .i64, .int .i64, .int .i64, .int .i64, .int .i64]], [.c (.bool)], fun n x => w_FnExactSameBox n x.1 x.2.1⟩
noncomputable def L_w_FnExactSameBox : Nat → Option (LoopC UU.El (AM.Os UU.El ([.c (.bool)] ++ bkSs [.agg [.arr 3 16, .int .i64, .int .i64, .row 157, .int .i64, .int .i64, .str, .int .i64, .str, .int .i64, .int .i64, .int .i64, .int .i64, .int .i64, .int .i64], .agg [.arr 3 16, .int .i64, .int .i64, .row 157, .int .i64, .int .i64, .str, .int .i64, .str, .int .i64, .int .i64, .int .i64, .int .i64, .int .i64, .int .i64]]))) := lk []
theorem k_w_FnExactSameBox : ConOk Try.prog UU 6 c_w_FnExactSameBox :=
  fun_ok (cs := [(20, c_w_szBox), (22, c_w_toBox), (32, c_s_SameBox), (33, c_i_SameBox), (24, c_w_eqBox)]) (own := []) (N := 45) (ios := []) (pins := []) fits ⟨k_w_szBox, ⟨k_w_toBox, ⟨k_s_SameBox, ⟨k_i_SameBox, ⟨k_w_eqBox, trivial⟩⟩⟩⟩⟩ Try.func6 (L := L_w_FnExactSameBox) (by kernel_rfl) (by kernel_rfl) (by kernel_rfl)

end Go.Proofs.Ytigoabhkdipdeaa
